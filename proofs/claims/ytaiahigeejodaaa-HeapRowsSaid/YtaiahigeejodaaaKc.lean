/-
  Operations on numbers, truth values and addresses.
-/
import Derived.Test.YtaiahigeejodaaaKb
import Derived.Laws.BitsLemmas
import Derived.IntWalk
namespace Go.Proofs.Ytaiahigeejodaaa
open Go.RowKit
set_option linter.unusedVariables false
set_option linter.unusedSimpArgs false

/-- what a type is -/
class TyU (P : Program) (t : TypeId) (d : outParam TypeDesc) : Prop where out : P.underlying t = some d
/-- its cells, its zero value, its bytes -/
class TyI (P : Program) (t : TypeId) (size : outParam Nat) (zero : outParam Value) (bytes : outParam Nat) : Prop where
  out : (P.info? t).map (fun i => (i.size, i.zero, i.bytes)) = some (size, some zero, bytes)

section
variable {P : Program} {t size bytes : Nat} {zero : Value} {w : World}
theorem TyI.info [h : TyI P t size zero bytes] : ∃ i, P.info? t = some i ∧ i.size = size ∧ i.zero = some zero ∧ i.bytes = bytes := by
  obtain ⟨i, hi, he⟩ := Option.map_eq_some_iff.1 h.out
  simp only [Prod.mk.injEq] at he
  exact ⟨i, hi, he.1, he.2.1, he.2.2⟩
theorem run_size [h : TyI P t size zero bytes] : (sizeOf t).run P w = .ok size w := by
  obtain ⟨i, hi, h1, _⟩ := h.info
  simp [sizeOf, typeInfo, hi, h1]
theorem run_zero [h : TyI P t size zero bytes] : (zeroValue t).run P w = .ok zero w := by
  obtain ⟨i, hi, _, h2, _⟩ := h.info
  simp [zeroValue, typeInfo, hi, h2]
theorem run_under {d : TypeDesc} [h : TyU P t d] : (underlying t).run P w = .ok d w := run_underlying h.out w
end

theorem wrap64_in {x : Int} (h : -9223372036854775808 ≤ x ∧ x ≤ 9223372036854775807) : IntKind.i64.wrap x = x := by
  rw [IntKind.wrap_i64]; omega
theorem wrap_u8_in {x : Int} (h : 0 ≤ x ∧ x ≤ 255) : IntKind.u8.wrap x = x := by
  rw [IntKind.wrap_u8]; omega
theorem wrap_u32_in {x : Int} (h : 0 ≤ x ∧ x ≤ 4294967295) : IntKind.u32.wrap x = x := by
  rw [IntKind.wrap_u32]; omega
theorem wrap_u16 (x : Int) : IntKind.u16.wrap x = x % 65536 := by simp [IntKind.wrap, IntKind.bits, IntKind.signed]
theorem wrap_u64 (x : Int) : IntKind.u64.wrap x = x % 18446744073709551616 := by simp [IntKind.wrap, IntKind.bits, IntKind.signed]
theorem wrap_u16_in {x : Int} (h : 0 ≤ x ∧ x ≤ 65535) : IntKind.u16.wrap x = x := by
  rw [wrap_u16]; omega
theorem wrap_u64_in {x : Int} (h : 0 ≤ x ∧ x ≤ 18446744073709551615) : IntKind.u64.wrap x = x := by
  rw [wrap_u64]; omega

section
variable {P : Program} {ops : Array Oper} {Q : Exit → Act → World → Prop} {rest : List Oper} {n d : Nat} {L : List (Nat × Value)} {a : Act} {w : World}
variable {ty xt yt : TypeId} {ps : String} {af : Array Edge} {x y : Operand} {k : IntKind} {i j : Int}

theorem eqg (op : BinOp) (t : TypeId) (x y : Operand) (k k' : IntKind) (i j : Int) (w : World) : (eqGuard op t x y (.int k i) (.int k' j)).run P w = .ok () w := by
  unfold eqGuard
  cases op <;> rfl

theorem s_add (hE : Env n L a) (hx : ev L x = some (.int k i)) (hy : ev L y = some (.int k j)) (hd : Nat.blt d n = true) {r : Int} (hr : k.wrap (i + j) = r) (K : ∀ a', Env n ((d, .int k r) :: L) a' → wpList P ops Q rest a' w) :
    wpList P ops Q (⟨some d, .binOp .add xt x y yt, ty, ps, af, none⟩ :: rest) a w :=
  s_val hE rfl rfl hd (by simp [execOp, hE.eval hx, hE.eval hy, eqg, binOp, Op.intArith, hr]) K
theorem s_sub (hE : Env n L a) (hx : ev L x = some (.int k i)) (hy : ev L y = some (.int k j)) (hd : Nat.blt d n = true) {r : Int} (hr : k.wrap (i - j) = r) (K : ∀ a', Env n ((d, .int k r) :: L) a' → wpList P ops Q rest a' w) :
    wpList P ops Q (⟨some d, .binOp .sub xt x y yt, ty, ps, af, none⟩ :: rest) a w :=
  s_val hE rfl rfl hd (by simp [execOp, hE.eval hx, hE.eval hy, eqg, binOp, Op.intArith, hr]) K
theorem s_mul (hE : Env n L a) (hx : ev L x = some (.int k i)) (hy : ev L y = some (.int k j)) (hd : Nat.blt d n = true) {r : Int} (hr : k.wrap (i * j) = r) (K : ∀ a', Env n ((d, .int k r) :: L) a' → wpList P ops Q rest a' w) :
    wpList P ops Q (⟨some d, .binOp .mul xt x y yt, ty, ps, af, none⟩ :: rest) a w :=
  s_val hE rfl rfl hd (by simp [execOp, hE.eval hx, hE.eval hy, eqg, binOp, Op.intArith, hr]) K
theorem s_quo (hE : Env n L a) (hx : ev L x = some (.int k i)) (hy : ev L y = some (.int k j)) (hj : j ≠ 0) (hd : Nat.blt d n = true) {r : Int} (hr : k.wrap (i.tdiv j) = r) (K : ∀ a', Env n ((d, .int k r) :: L) a' → wpList P ops Q rest a' w) :
    wpList P ops Q (⟨some d, .binOp .quo xt x y yt, ty, ps, af, none⟩ :: rest) a w :=
  s_val hE rfl rfl hd (by simp [execOp, hE.eval hx, hE.eval hy, eqg, binOp, Op.intDiv, hj, hr]) K
theorem s_rem (hE : Env n L a) (hx : ev L x = some (.int k i)) (hy : ev L y = some (.int k j)) (hj : j ≠ 0) (hd : Nat.blt d n = true) {r : Int} (hr : i.tmod j = r) (K : ∀ a', Env n ((d, .int k r) :: L) a' → wpList P ops Q rest a' w) :
    wpList P ops Q (⟨some d, .binOp .rem xt x y yt, ty, ps, af, none⟩ :: rest) a w :=
  s_val hE rfl rfl hd (by simp [execOp, hE.eval hx, hE.eval hy, eqg, binOp, Op.intDiv, hj, hr]) K
theorem s_and (hE : Env n L a) (hx : ev L x = some (.int k i)) (hy : ev L y = some (.int k j)) (hd : Nat.blt d n = true) {r : Int} (hr : bits .and k i j = r) (K : ∀ a', Env n ((d, .int k r) :: L) a' → wpList P ops Q rest a' w) :
    wpList P ops Q (⟨some d, .binOp .and xt x y yt, ty, ps, af, none⟩ :: rest) a w :=
  s_val hE rfl rfl hd (by simp [execOp, hE.eval hx, hE.eval hy, eqg, binOp, intBits_and, hr]) K
theorem s_or (hE : Env n L a) (hx : ev L x = some (.int k i)) (hy : ev L y = some (.int k j)) (hd : Nat.blt d n = true) {r : Int} (hr : bits .or k i j = r) (K : ∀ a', Env n ((d, .int k r) :: L) a' → wpList P ops Q rest a' w) :
    wpList P ops Q (⟨some d, .binOp .or xt x y yt, ty, ps, af, none⟩ :: rest) a w :=
  s_val hE rfl rfl hd (by simp [execOp, hE.eval hx, hE.eval hy, eqg, binOp, intBits_or, hr]) K
theorem s_xor (hE : Env n L a) (hx : ev L x = some (.int k i)) (hy : ev L y = some (.int k j)) (hd : Nat.blt d n = true) {r : Int} (hr : bits .xor k i j = r) (K : ∀ a', Env n ((d, .int k r) :: L) a' → wpList P ops Q rest a' w) :
    wpList P ops Q (⟨some d, .binOp .xor xt x y yt, ty, ps, af, none⟩ :: rest) a w :=
  s_val hE rfl rfl hd (by simp [execOp, hE.eval hx, hE.eval hy, eqg, binOp, intBits_xor, hr]) K
theorem s_shl {k' : IntKind} (hE : Env n L a) (hx : ev L x = some (.int k i)) (hy : ev L y = some (.int k' j)) (hj : 0 ≤ j) (hd : Nat.blt d n = true) {r : Int} (hr : k.wrap (i * 2 ^ min j.toNat k.bits) = r) (K : ∀ a', Env n ((d, .int k r) :: L) a' → wpList P ops Q rest a' w) :
    wpList P ops Q (⟨some d, .binOp .shl xt x y yt, ty, ps, af, none⟩ :: rest) a w :=
  s_val hE rfl rfl hd (by simp [execOp, hE.eval hx, hE.eval hy, eqg, binOp, Op.shift, show ¬ j < 0 from by omega, hr]) K
theorem s_shr {k' : IntKind} (hE : Env n L a) (hx : ev L x = some (.int k i)) (hy : ev L y = some (.int k' j)) (hj : 0 ≤ j) (hd : Nat.blt d n = true) {r : Int} (hr : i.fdiv (2 ^ min j.toNat k.bits) = r) (K : ∀ a', Env n ((d, .int k r) :: L) a' → wpList P ops Q rest a' w) :
    wpList P ops Q (⟨some d, .binOp .shr xt x y yt, ty, ps, af, none⟩ :: rest) a w :=
  s_val hE rfl rfl hd (by simp [execOp, hE.eval hx, hE.eval hy, eqg, binOp, Op.shift, show ¬ j < 0 from by omega, hr]) K

theorem s_lss (hE : Env n L a) (hx : ev L x = some (.int k i)) (hy : ev L y = some (.int k j)) (hd : Nat.blt d n = true) (K : ∀ a', Env n ((d, .bool (decide (i < j))) :: L) a' → wpList P ops Q rest a' w) :
    wpList P ops Q (⟨some d, .binOp .lss xt x y yt, ty, ps, af, none⟩ :: rest) a w :=
  s_val hE rfl rfl hd (by simp [execOp, hE.eval hx, hE.eval hy, eqg, binOp, Op.intCmp]) K
theorem s_leq (hE : Env n L a) (hx : ev L x = some (.int k i)) (hy : ev L y = some (.int k j)) (hd : Nat.blt d n = true) (K : ∀ a', Env n ((d, .bool (decide (i ≤ j))) :: L) a' → wpList P ops Q rest a' w) :
    wpList P ops Q (⟨some d, .binOp .leq xt x y yt, ty, ps, af, none⟩ :: rest) a w :=
  s_val hE rfl rfl hd (by simp [execOp, hE.eval hx, hE.eval hy, eqg, binOp, Op.intCmp]) K
theorem s_gtr (hE : Env n L a) (hx : ev L x = some (.int k i)) (hy : ev L y = some (.int k j)) (hd : Nat.blt d n = true) (K : ∀ a', Env n ((d, .bool (decide (j < i))) :: L) a' → wpList P ops Q rest a' w) :
    wpList P ops Q (⟨some d, .binOp .gtr xt x y yt, ty, ps, af, none⟩ :: rest) a w :=
  s_val hE rfl rfl hd (by simp [execOp, hE.eval hx, hE.eval hy, eqg, binOp, Op.intCmp]) K
theorem s_geq (hE : Env n L a) (hx : ev L x = some (.int k i)) (hy : ev L y = some (.int k j)) (hd : Nat.blt d n = true) (K : ∀ a', Env n ((d, .bool (decide (j ≤ i))) :: L) a' → wpList P ops Q rest a' w) :
    wpList P ops Q (⟨some d, .binOp .geq xt x y yt, ty, ps, af, none⟩ :: rest) a w :=
  s_val hE rfl rfl hd (by simp [execOp, hE.eval hx, hE.eval hy, eqg, binOp, Op.intCmp]) K
theorem s_eql (hE : Env n L a) (hx : ev L x = some (.int k i)) (hy : ev L y = some (.int k j)) (hd : Nat.blt d n = true) (K : ∀ a', Env n ((d, .bool (decide (i = j))) :: L) a' → wpList P ops Q rest a' w) :
    wpList P ops Q (⟨some d, .binOp .eql xt x y yt, ty, ps, af, none⟩ :: rest) a w :=
  s_val hE rfl rfl hd (by simp [execOp, hE.eval hx, hE.eval hy, eqg, binOp, Op.intCmp]; rfl) K
theorem s_neq (hE : Env n L a) (hx : ev L x = some (.int k i)) (hy : ev L y = some (.int k j)) (hd : Nat.blt d n = true) (K : ∀ a', Env n ((d, .bool (decide (i ≠ j))) :: L) a' → wpList P ops Q rest a' w) :
    wpList P ops Q (⟨some d, .binOp .neq xt x y yt, ty, ps, af, none⟩ :: rest) a w :=
  s_val hE rfl rfl hd (by simp [execOp, hE.eval hx, hE.eval hy, eqg, binOp, Op.intCmp, bne, instBEqOfDecidableEq]; rfl) K
theorem s_not {p : Prop} [Decidable p] (hE : Env n L a) (hx : ev L x = some (.bool (decide p))) (hd : Nat.blt d n = true) (K : ∀ a', Env n ((d, .bool (decide (¬ p))) :: L) a' → wpList P ops Q rest a' w) :
    wpList P ops Q (⟨some d, .unOp .not xt x, ty, ps, af, none⟩ :: rest) a w :=
  s_val hE rfl rfl hd (by simp [execOp, hE.eval hx, Op.unary]) K
theorem s_notb {b : Bool} (hE : Env n L a) (hx : ev L x = some (.bool b)) (hd : Nat.blt d n = true) (K : ∀ a', Env n ((d, .bool (!b)) :: L) a' → wpList P ops Q rest a' w) :
    wpList P ops Q (⟨some d, .unOp .not xt x, ty, ps, af, none⟩ :: rest) a w :=
  s_val hE rfl rfl hd (by simp [execOp, hE.eval hx, Op.unary]) K
theorem s_com (hE : Env n L a) (hx : ev L x = some (.int k i)) (hd : Nat.blt d n = true) {r : Int} (hr : bits .xor k (if k.signed then -1 else k.max) i = r) (K : ∀ a', Env n ((d, .int k r) :: L) a' → wpList P ops Q rest a' w) :
    wpList P ops Q (⟨some d, .unOp .xor xt x, ty, ps, af, none⟩ :: rest) a w :=
  s_val hE rfl rfl hd (by simp [execOp, hE.eval hx, Op.unary, intBits_xor, hr]) K
theorem s_conv {k' : IntKind} {src dst : TypeId} {ds : TypeDesc} [TyU P src ds] [TyU P dst (.int k')] (hE : Env n L a) (hx : ev L x = some (.int k i)) (hd : Nat.blt d n = true) {r : Int} (hr : k'.wrap i = r) (K : ∀ a', Env n ((d, .int k' r) :: L) a' → wpList P ops Q rest a' w) :
    wpList P ops Q (⟨some d, .convert src dst x, ty, ps, af, none⟩ :: rest) a w :=
  s_val hE rfl rfl hd (by simp [execOp, hE.eval hx, convert, run_under (d := ds), run_under (d := .int k'), Conv.intToInt, hr]) K
theorem s_len {e : TypeId} {t : TypeId} {A : Option Addr} {m c : Nat} [TyU P t (.slice e)] (hE : Env n L a) (hx : ev L x = some (.slice A m c)) (hd : Nat.blt d n = true) (K : ∀ a', Env n ((d, .int .i64 (m : Int)) :: L) a' → wpList P ops Q rest a' w) :
    wpList P ops Q (⟨some d, .call ⟨.builtin .len, #[x], #[t]⟩, ty, ps, af, none⟩ :: rest) a w :=
  s_val hE rfl rfl hd (by simp [execOp, resolve, invoke, builtin, Builtin.len_, hE.eval hx, run_under (d := .slice e), goInt]) K
theorem s_min {ts : Array TypeId} (hE : Env n L a) (hx : ev L x = some (.int k i)) (hy : ev L y = some (.int k j)) (hd : Nat.blt d n = true) {r : Int} (hr : (if j < i then j else i) = r) (K : ∀ a', Env n ((d, .int k r) :: L) a' → wpList P ops Q rest a' w) :
    wpList P ops Q (⟨some d, .call ⟨.builtin .min, #[x, y], ts⟩, ty, ps, af, none⟩ :: rest) a w :=
  s_val hE rfl rfl hd (by simp [execOp, resolve, invoke, builtin, Builtin.min_, Builtin.min2, hE.eval hx, hE.eval hy, hr]) K
theorem s_max {ts : Array TypeId} (hE : Env n L a) (hx : ev L x = some (.int k i)) (hy : ev L y = some (.int k j)) (hd : Nat.blt d n = true) {r : Int} (hr : (if i < j then j else i) = r) (K : ∀ a', Env n ((d, .int k r) :: L) a' → wpList P ops Q rest a' w) :
    wpList P ops Q (⟨some d, .call ⟨.builtin .max, #[x, y], ts⟩, ty, ps, af, none⟩ :: rest) a w :=
  s_val hE rfl rfl hd (by simp [execOp, resolve, invoke, builtin, Builtin.max_, Builtin.max2, hE.eval hx, hE.eval hy, hr]) K
end
end Go.Proofs.Ytaiahigeejodaaa
