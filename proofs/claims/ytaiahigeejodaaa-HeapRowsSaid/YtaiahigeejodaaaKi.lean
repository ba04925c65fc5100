/-
  Rows that can only be read; conversions of rows.
-/
import Derived.Test.YtaiahigeejodaaaKh
import Derived.Test.YtaiahigeejodaaaKf
namespace Go.Proofs.Ytaiahigeejodaaa
open Go.RowKit
set_option linter.unusedVariables false
set_option linter.unusedSimpArgs false

/-- a slice of one's own that is only read from now on -/
def hRd (A : Option Addr) (cs : List Value) : HP where
  at_ S w := (∀ ad, A = some ad → S ad.block) ∧ Rd w A cs
  keep := by
    rintro S w w' ⟨h1, h2⟩ hk
    refine ⟨h1, fun hne => ?_⟩
    obtain ⟨ad, e, hc⟩ := h2 hne
    refine ⟨ad, e, fun j u hu => ?_⟩
    have hb := hk _ (h1 ad e)
    rw [World.cell?_of_block (w := w) (by rw [add_block]; exact hb)]
    exact hc j u hu

section
variable {P : Program} {ops : Array Oper} {Q : Exit → Act → World → Prop} {rest : List Oper} {n d : Nat} {L : List (Nat × Value)} {a : Act} {w w0 : World} {H : List HP}
variable {ty xt yt : TypeId} {ps : String} {af : Array Edge} {x y z : Operand}

theorem St.rd2 {A : Option Addr} {cs : List Value} (hS : St w0 w (hRd A cs :: H)) : Rd w A cs := by
  obtain ⟨S, _, _, h⟩ := hS.head
  exact h
theorem St.rowRd {e size m c : Nat} {A : Option Addr} {cs : List Value} (hS : St w0 w (hRow e size A m c cs :: H)) : St w0 w (hRd A cs :: H) :=
  hS.conv fun S ⟨h1, h2⟩ => ⟨h1, rd_of_own h2⟩

/-- []byte(x), x a row of bytes of one's own -/
theorem s_convB {t e m c : Nat} {g : Nat} {cs : List Value} [TyU P t (.slice e)] [TyU P e (.int .u8)] (hE : Env n L a) (hS : St w0 w (hRow e 1 (some ⟨g, 0, none⟩) m c cs :: H)) (hx : ev L x = some (.slice (some ⟨g, 0, none⟩) m c)) (hd : Nat.blt d n = true)
    (K : ∀ a' w', Env n ((d, .slice (some ⟨g, 0, none⟩) m c) :: L) a' → St w0 w' (hRd (some ⟨g, 0, none⟩) cs :: H) → wpList P ops Q rest a' w') :
    wpList P ops Q (⟨some d, .convert t t x, ty, ps, af, none⟩ :: rest) a w := by
  obtain ⟨S0, _, _, hown⟩ := hS.head
  obtain ⟨cur, hh⟩ : ∃ cur, w.heap[g]? = some (.cells cur e (0, 0)) := by
    rcases hown.2 with ⟨h0, _⟩ | ⟨g', cap, cur, he, _, hh, _⟩
    · cases h0
    · have : g' = g := by injection he with h1; injection h1 with h1; injection h1 with h1; exact h1.symm
      subst this
      exact ⟨cur, hh⟩
  have hsh : w.shape? g = some (e, cur.size) := by simp [World.shape?, hh]
  refine s_val (v := .slice (some ⟨g, 0, none⟩) m c) (w' := w.freeze ⟨g, cur.size, none⟩ 1) hE rfl rfl hd ?_ fun a' hE' => K a' _ hE' ?_
  · simp [execOp, hE.eval hx, convert, run_under (d := .slice e), run_under (d := .int .u8), markStringish, hsh]
  · have hother : ∀ k, k ≠ g → (w.freeze ⟨g, cur.size, none⟩ 1).heap[k]? = w.heap[k]? := by
      intro k hk
      simp only [World.freeze, Nat.one_ne_zero, if_false, Array.getElem?_modify]
      rw [if_neg (fun e => hk e.symm)]
    have hcell : ∀ ad : Addr, (w.freeze ⟨g, cur.size, none⟩ 1).cell? ad = w.cell? ad := by
      intro ad
      by_cases hk : ad.block = g
      · simp only [World.cell?, World.freeze, Nat.one_ne_zero, if_false, Array.getElem?_modify, hk, if_true, hh, Option.map_some]
      · exact World.cell?_of_block (hother _ hk)
    refine hS.upd rfl rfl rfl (by simp [World.freeze]) fun S ⟨h1, h2⟩ => ⟨S, ⟨h1, fun hne => ?_⟩, fun k hk => .inl hk, fun k _ hk => hother k (fun e => hk (e ▸ h1 _ rfl))⟩
    obtain ⟨ad, e2, hc⟩ := rd_of_own h2 hne
    exact ⟨ad, e2, fun j u hu => (hcell _).trans (hc j u hu)⟩
end
end Go.Proofs.Ytaiahigeejodaaa
