/- Plain Lean: loops by an index, whatever they do. -/
import Derived.Test.YtpnkncinmoogpaaGreatDoorPlainA
set_option linter.unusedVariables false
namespace Go.Ch
open Go Go.Eng
/-- A loop that goes on to its end. -/
theorem go_loop {δ : Type} {F : Nat → Int → Option δ} {n : Nat} {e : δ} (h0 : ∀ q i, ¬ i < (n : Int) → F (q + 1) i = some e) (h1 : ∀ q (i : Nat), i < n → F (q + 1) (i : Int) = F q ((i + 1 : Nat) : Int)) :
    ∀ (d i : Nat), i + d = n → ∀ q, d < q → F q (i : Int) = some e := by
  intro d
  induction d with
  | zero =>
    intro i hi q hq
    obtain ⟨q, rfl⟩ : ∃ m, q = m + 1 := ⟨q - 1, by omega⟩
    exact h0 q i (by omega)
  | succ d ih =>
    intro i hi q hq
    obtain ⟨q, rfl⟩ : ∃ m, q = m + 1 := ⟨q - 1, by omega⟩
    rw [h1 q i (by omega)]; exact ih (i + 1) (by omega) q (by omega)
/-- A loop over a list that carries something on. -/
theorem fold_loop {α β δ : Type} {F : Nat → β → Int → Option δ} {l : List α} {st : β → α → β} {fin : β → δ} (Inv : Nat → β → Prop)
    (h0 : ∀ q b i, ¬ i < (l.length : Int) → F (q + 1) b i = some (fin b)) (h1 : ∀ q b (i : Nat) x, i < l.length → l[i]? = some x → Inv i b → F (q + 1) b (i : Int) = F q (st b x) ((i + 1 : Nat) : Int) ∧ Inv (i + 1) (st b x)) :
    ∀ (d i : Nat) (b : β), i + d = l.length → Inv i b → ∀ q, d < q → F q b (i : Int) = some (fin ((l.drop i).foldl st b)) := by
  intro d
  induction d with
  | zero =>
    intro i b hi hI q hq
    obtain ⟨q, rfl⟩ : ∃ m, q = m + 1 := ⟨q - 1, by omega⟩
    rw [h0 q b i (by omega), List.drop_of_length_le (by omega)]; rfl
  | succ d ih =>
    intro i b hi hI q hq
    obtain ⟨q, rfl⟩ : ∃ m, q = m + 1 := ⟨q - 1, by omega⟩
    have hx : l[i]? = some (l[i]'(by omega)) := List.getElem?_eq_getElem (by omega)
    obtain ⟨g1, g2⟩ := h1 q b i _ (by omega) hx hI
    rw [g1, ih (i + 1) _ (by omega) g2 q (by omega), List.drop_eq_getElem_cons (show i < l.length by omega)]; rfl
/-- A loop that asks whether there is one. -/
theorem any_loop {α : Type} {F : Nat → Bool → Int → Option Bool} {l : List α} {p : α → Bool}
    (h0 : ∀ q b i, ¬ i < (l.length : Int) → F (q + 1) b i = some b) (h1 : ∀ q b (i : Nat) x, i < l.length → l[i]? = some x → F (q + 1) b (i : Int) = F q (b || p x) ((i + 1 : Nat) : Int)) :
    ∀ (d i : Nat) (b : Bool), i + d = l.length → ∀ q, d < q → F q b (i : Int) = some (b || (l.drop i).any p) := by
  intro d i b hi q hq
  have := fold_loop (F := F) (l := l) (st := fun b x => b || p x) (fin := fun b => b) (fun _ _ => True) h0 (fun q b i x hi hx _ => ⟨h1 q b i x hi hx, trivial⟩) d i b hi trivial q hq
  rw [this]; congr 1
  clear this h0 h1 hi hq
  generalize l.drop i = m
  induction m generalizing b with
  | nil => simp
  | cons x m ih => rw [List.foldl_cons, ih, List.any_cons, Bool.or_assoc]
theorem u64_in (n : Int) (h0 : 0 ≤ n) (h1 : n ≤ 18446744073709551615) : IntKind.u64.wrap n = n := IntWalk.u64_in n ⟨h0, h1⟩
end Go.Ch
