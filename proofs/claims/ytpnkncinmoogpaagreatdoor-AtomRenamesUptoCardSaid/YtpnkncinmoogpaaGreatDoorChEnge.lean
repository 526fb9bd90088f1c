/- THE ENGINE, part 5: rows of elements that are read, and what their cells say. -/
import Derived.Test.YtpnkncinmoogpaaGreatDoorChEngd
import Derived.IntWalk
set_option linter.unusedVariables false
namespace Go.Eng
open Go Go.RowKit

/-- xs lies at A, element by element: sz cells each, of which rep tells what they mean. -/
def Row {α : Type} (rep : α → List Value → Prop) (sz : Nat) (M : Mem) (A : Option Addr) (xs : List α) : Prop :=
  (A = none ∧ xs = []) ∨ ∃ b o, A = some ⟨b, o, none⟩ ∧ ∀ i x, xs[i]? = some x → ∃ cs, rep x cs ∧ cs.length = sz ∧ ∀ j v, cs[j]? = some v → M ⟨b, o + i * sz + j, none⟩ = some v

theorem Row.nil {α : Type} {rep : α → List Value → Prop} {sz : Nat} {M : Mem} : Row rep sz M none ([] : List α) := .inl ⟨rfl, rfl⟩
theorem Row.at {α : Type} {rep : α → List Value → Prop} {sz : Nat} {M : Mem} {A : Option Addr} {xs : List α} (h : Row rep sz M A xs) {i : Nat} {x : α} (hx : xs[i]? = some x) :
    ∃ b o cs, A = some ⟨b, o, none⟩ ∧ rep x cs ∧ cs.length = sz ∧ ∀ j v, cs[j]? = some v → M ⟨b, o + i * sz + j, none⟩ = some v := by
  rcases h with ⟨_, rfl⟩ | ⟨b, o, hA, hc⟩
  · simp at hx
  · obtain ⟨cs, h1, h2, h3⟩ := hc i x hx
    exact ⟨b, o, cs, hA, h1, h2, h3⟩
theorem Row.mono {α : Type} {rep rep' : α → List Value → Prop} {sz : Nat} {M M' : Mem} {A : Option Addr} {xs : List α} (h : Row rep sz M A xs) (hle : ∀ a u, M a = some u → M' a = some u) (hr : ∀ x cs, rep x cs → rep' x cs) : Row rep' sz M' A xs := by
  rcases h with ⟨rfl, rfl⟩ | ⟨b, o, hA, hc⟩
  · exact .inl ⟨rfl, rfl⟩
  · refine .inr ⟨b, o, hA, fun i x hx => ?_⟩
    obtain ⟨cs, h1, h2, h3⟩ := hc i x hx
    exact ⟨cs, hr x cs h1, h2, fun j v hj => hle _ _ (h3 j v hj)⟩
theorem Row.le {α : Type} {rep : α → List Value → Prop} {sz : Nat} {M M' : Mem} {A : Option Addr} {xs : List α} (h : Row rep sz M A xs) (hle : ∀ a u, M a = some u → M' a = some u) : Row rep sz M' A xs := h.mono hle (fun _ _ h => h)

/-- Cells, element by element. -/
def Cells {α : Type} (rep : α → List Value → Prop) (sz : Nat) : List α → List Value → Prop
  | [], cs => cs = []
  | x :: xs, cs => ∃ c r, cs = c ++ r ∧ rep x c ∧ c.length = sz ∧ Cells rep sz xs r
theorem Cells.length {α : Type} {rep : α → List Value → Prop} {sz : Nat} : ∀ {xs : List α} {cs : List Value}, Cells rep sz xs cs → cs.length = xs.length * sz
  | [], cs, h => by rw [show cs = [] from h]; simp
  | x :: xs, cs, ⟨c, r, e, _, hl, hr⟩ => by rw [e, List.length_append, hl, Cells.length hr, List.length_cons, Nat.add_mul, Nat.one_mul, Nat.add_comm]
theorem Cells.snoc {α : Type} {rep : α → List Value → Prop} {sz : Nat} : ∀ {xs : List α} {cs : List Value}, Cells rep sz xs cs → ∀ {x : α} {c : List Value}, rep x c → c.length = sz → Cells rep sz (xs ++ [x]) (cs ++ c)
  | [], cs, h, x, c, hx, hl => ⟨c, [], by rw [show cs = [] from h]; simp, hx, hl, rfl⟩
  | y :: xs, cs, ⟨d, r, e, h1, h2, h3⟩, x, c, hx, hl => ⟨d, r ++ c, by rw [e, List.append_assoc], h1, h2, Cells.snoc h3 hx hl⟩
theorem Cells.mono {α : Type} {rep rep' : α → List Value → Prop} {sz : Nat} (hr : ∀ x cs, rep x cs → rep' x cs) : ∀ {xs : List α} {cs : List Value}, Cells rep sz xs cs → Cells rep' sz xs cs
  | [], cs, h => h
  | x :: xs, cs, ⟨c, r, e, h1, h2, h3⟩ => ⟨c, r, e, hr x c h1, h2, Cells.mono hr h3⟩
theorem Cells.row {α : Type} {rep : α → List Value → Prop} {sz : Nat} {M : Mem} {b : Nat} : ∀ {xs : List α} {cs : List Value} (o : Nat), Cells rep sz xs cs → (∀ j u, cs[j]? = some u → M ⟨b, o + j, none⟩ = some u) → ∀ i x, xs[i]? = some x → ∃ c, rep x c ∧ c.length = sz ∧ ∀ j v, c[j]? = some v → M ⟨b, o + i * sz + j, none⟩ = some v
  | [], cs, o, h, hm, i, x, hx => by simp at hx
  | y :: xs, cs, o, ⟨c, r, e, h1, h2, h3⟩, hm, i, x, hx => by
    cases i with
    | zero =>
      simp only [List.getElem?_cons_zero, Option.some.injEq] at hx
      subst hx
      refine ⟨c, h1, h2, fun j v hj => ?_⟩
      have hlt : j < c.length := (List.getElem?_eq_some_iff.1 hj).1
      rw [Nat.zero_mul, Nat.add_zero]
      exact hm j v (by rw [e, List.getElem?_append_left hlt]; exact hj)
    | succ i =>
      have hx' : xs[i]? = some x := by simpa using hx
      obtain ⟨c', g1, g2, g3⟩ := Cells.row (M := M) (b := b) (o + sz) h3 (fun j u hj => by
        have := hm (c.length + j) u (by rw [e, List.getElem?_append_right (by omega)]; rw [Nat.add_sub_cancel_left]; exact hj)
        rw [h2] at this
        rw [Nat.add_assoc]; exact this) i x hx'
      refine ⟨c', g1, g2, fun j v hj => ?_⟩
      have := g3 j v hj
      rw [Nat.succ_mul, show o + (i * sz + sz) + j = o + sz + i * sz + j by omega]
      exact this
/-- A row that was just made known. -/
theorem row_pub {α : Type} {rep : α → List Value → Prop} {sz : Nat} {M : Mem} {A : Option Addr} {xs : List α} {cs : List Value} {n : Nat} (hc : Cells rep sz xs cs) (hn : n = xs.length) (h : (A = none ∧ n = 0) ∨ ∃ b, A = some ⟨b, 0, none⟩ ∧ ∀ j u, cs[j]? = some u → M ⟨b, j, none⟩ = some u) : Row rep sz M A xs := by
  rcases h with ⟨h1, h⟩ | ⟨b, hA, hm⟩
  · exact .inl ⟨h1, List.eq_nil_of_length_eq_zero (hn ▸ h)⟩
  · exact .inr ⟨b, 0, hA, fun i x hx => Cells.row 0 hc (fun j u hj => by rw [Nat.zero_add]; exact hm j u hj) i x hx⟩

/-- Elements whose cells hang on them alone. -/
def flat {α : Type} (enc : α → List Value) : α → List Value → Prop := fun x cs => cs = enc x
theorem Row.flat_at {α : Type} {enc : α → List Value} {sz : Nat} {M : Mem} {A : Option Addr} {xs : List α} (h : Row (flat enc) sz M A xs) {i : Nat} (hi : i < xs.length) :
    ∃ b o, A = some ⟨b, o, none⟩ ∧ (enc xs[i]).length = sz ∧ ∀ j v, (enc xs[i])[j]? = some v → M ⟨b, o + i * sz + j, none⟩ = some v := by
  obtain ⟨b, o, cs, h1, h2, h3, h4⟩ := h.at (List.getElem?_eq_getElem hi)
  subst h2
  exact ⟨b, o, h1, h3, h4⟩
theorem wrapN (k : Nat) (h : k < 4611686018427387904) : IntKind.i64.wrap ((k : Int) + 1) = ((k + 1 : Nat) : Int) := by
  rw [IntWalk.i64_in _ (by omega)]; omega
theorem toNat_nat (k : Nat) : ((k : Int)).toNat = k := Int.toNat_natCast k
theorem setR_one (r : Nat) (x y : RowI) : setR [(r, x)] r y = [(r, y)] := by simp [setR]
end Go.Eng
