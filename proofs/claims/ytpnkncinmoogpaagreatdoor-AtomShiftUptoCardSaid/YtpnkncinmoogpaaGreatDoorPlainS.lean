/- Plain Lean: what chapter 10's references compute: pairs turned, texts. -/
import Derived.Test.YtpnkncinmoogpaaGreatDoorPlainR
set_option linter.unusedVariables false
namespace Go.Ch
open Go Go.Eng
/-! ### element by element -/
/-- A loop that appends one element for each. -/
theorem map_loop {α β : Type} {by_ : Nat} {F : Nat → List β → Int → Option (List β)} {l : List α} {f : α → β} (hl : l.length * by_ ≤ 140737488355328) (hl2 : l.length ≤ 1099511627776)
    (h0 : ∀ q out i, ¬ i < (l.length : Int) → F (q + 1) out i = some out) (h1 : ∀ q out (i : Nat) x, i < l.length → l[i]? = some x → F (q + 1) out (i : Int) = (apd by_ out [f x]).bind fun ys => F q ys ((i + 1 : Nat) : Int)) :
    ∀ (d i : Nat) (out : List β), i + d = l.length → out.length = i → ∀ q, d < q → F q out (i : Int) = some (out ++ (l.drop i).map f) := by
  intro d
  induction d with
  | zero =>
    intro i out hi ho q hq
    obtain ⟨q, rfl⟩ : ∃ m, q = m + 1 := ⟨q - 1, by omega⟩
    rw [h0 q out i (by omega), List.drop_of_length_le (by omega)]; simp
  | succ d ih =>
    intro i out hi ho q hq
    obtain ⟨q, rfl⟩ : ∃ m, q = m + 1 := ⟨q - 1, by omega⟩
    obtain ⟨x, hx, hd⟩ := getE hi
    have hb : (i + 1) * by_ ≤ l.length * by_ := Nat.mul_le_mul_right _ (by omega)
    rw [h1 q out i x (by omega) hx, apd_ok (by simp only [ho, List.length_singleton]; omega) (by simp only [ho, List.length_singleton]; omega), Option.bind_some, ih (i + 1) _ (by omega) (by simp [ho]) q (by omega), hd]
    simp
theorem refPairs_eq (k : Nat) (l : List (Int × Int)) (hl : l.length ≤ 274877906944) (hk : l.length < k) : law10_refPairs k l = some l := by
  unfold law10_refPairs
  have := map_loop (by_ := 16) (F := law10_refPairs_l1 l) (l := l) (f := fun x => x) (by omega) (by omega) (fun q out i h => by rw [law10_refPairs_l1, if_neg h])
    (fun q out i x hi hx => by rw [law10_refPairs_l1, if_pos (by omega), idx_nat hx, Option.bind_some, wrap1 (by omega)]) l.length 0 [] (by omega) rfl k (by omega)
  rw [show (0 : Int) = ((0 : Nat) : Int) from rfl, this, Option.bind_some]; simp
theorem refAtoms_eq (k : Nat) (l : List Int) (hl : l.length ≤ 1099511627776) (hk : l.length < k) : law10_refAtoms k l = some l := by
  unfold law10_refAtoms
  have := map_loop (by_ := 8) (F := law10_refAtoms_l1 l) (l := l) (f := fun x => x) (by omega) (by omega) (fun q out i h => by rw [law10_refAtoms_l1, if_neg h])
    (fun q out i x hi hx => by rw [law10_refAtoms_l1, if_pos (by omega), idx_nat hx, Option.bind_some, wrap1 (by omega)]) l.length 0 [] (by omega) rfl k (by omega)
  rw [show (0 : Int) = ((0 : Nat) : Int) from rfl, this, Option.bind_some]; simp
def shiftS (n a : Int) : Int := if a < 0 then a else if IntKind.i64.wrap (a + n) < 0 then 0 else IntKind.i64.wrap (a + n)
theorem ref10_shift_eq (a n : Int) : ref10_shift a n = some (shiftS n a) := by unfold ref10_shift shiftS; split <;> rfl
theorem ref10_Shift_eq (k : Nat) (l : List (Int × Int)) (n : Int) (hl : l.length ≤ 274877906944) (hk : l.length < k) : ref10_Shift k l n = some (l.map fun p => (shiftS n p.1, shiftS n p.2)) := by
  unfold ref10_Shift
  have := map_loop (by_ := 16) (F := ref10_Shift_l1 l n) (l := l) (f := fun p => (shiftS n p.1, shiftS n p.2)) (by omega) (by omega) (fun q out i h => by rw [ref10_Shift_l1, if_neg h])
    (fun q out i x hi hx => by rw [ref10_Shift_l1, if_pos (by omega), idx_nat hx, Option.bind_some, wrap1 (by omega), ref10_shift_eq, ref10_shift_eq, Option.bind_some, Option.bind_some]) l.length 0 [] (by omega) rfl k (by omega)
  rw [show (0 : Int) = ((0 : Nat) : Int) from rfl, this, Option.bind_some]; simp
/-- A loop that answers at the first that fits. -/
theorem find_loop {α ρ β : Type} {F : Nat → Int → Option (ρ ⊕ β)} {l : List α} {p : α → Bool} {g : Nat → α → Option (ρ ⊕ β)} {e : ρ ⊕ β} (hl2 : l.length ≤ 1099511627776)
    (h0 : ∀ q i, ¬ i < (l.length : Int) → F (q + 1) i = some e) (h1 : ∀ q (i : Nat) x, i < l.length → l[i]? = some x → F (q + 1) (i : Int) = if p x = true then g i x else F q ((i + 1 : Nat) : Int)) :
    ∀ (d i : Nat), i + d = l.length → ∀ q, d < q → F q (i : Int) = match (l.drop i).findIdx? p with
      | some j => (l[i + j]?).bind (g (i + j))
      | none => some e := by
  intro d
  induction d with
  | zero =>
    intro i hi q hq
    obtain ⟨q, rfl⟩ : ∃ m, q = m + 1 := ⟨q - 1, by omega⟩
    rw [h0 q i (by omega), List.drop_of_length_le (by omega)]; rfl
  | succ d ih =>
    intro i hi q hq
    obtain ⟨q, rfl⟩ : ∃ m, q = m + 1 := ⟨q - 1, by omega⟩
    obtain ⟨x, hx, hd⟩ := getE hi
    rw [h1 q i x (by omega) hx, hd, List.findIdx?_cons]
    by_cases hp : p x = true
    · simp only [hp, if_true, Nat.add_zero, hx, Option.bind_some]
    · simp only [hp]
      rw [if_neg (by simp), ih (i + 1) (by omega) q (by omega)]
      cases (l.drop (i + 1)).findIdx? p with
      | none => simp
      | some j => simp only [if_neg Bool.false_ne_true, Option.map_some]; rw [show i + 1 + j = i + (j + 1) by omega]
def renS (xs ys : List Int) (a : Int) : Int := match xs.findIdx? (fun x => x == a) with
  | some k => ys.getD k a
  | none => a
theorem findIdx_lt {α : Type} {p : α → Bool} {l : List α} {j : Nat} (h : l.findIdx? p = some j) : ∃ x, l[j]? = some x ∧ p x = true := by
  obtain ⟨h1, h2, _⟩ := List.findIdx?_eq_some_iff_getElem.1 h
  exact ⟨_, List.getElem?_eq_getElem h1, h2⟩
theorem ref10_One_eq (k : Nat) (a : Int) (xs ys : List Int) (hl : xs.length ≤ 1099511627776) (hk : xs.length < k) : ref10_One k a xs ys = some (renS xs ys a) := by
  unfold ref10_One
  have := find_loop (F := ref10_One_l1 a xs ys) (l := xs) (p := fun x => x == a) (g := fun i x => some (.inl (ys.getD i a))) (e := .inr ()) hl (fun q i h => by rw [ref10_One_l1, if_neg h])
    (fun q i x hi hx => by
      rw [ref10_One_l1, if_pos (by omega), idx_nat hx, Option.bind_some, wrap1 (by omega)]
      by_cases e : x = a
      · simp only [e, if_true, beq_self_eq_true]
        by_cases hj : i < ys.length
        · have hy : ys[i]? = some ys[i] := List.getElem?_eq_getElem hj
          rw [if_pos (by omega), idx_nat hy, Option.bind_some, List.getD_eq_getElem?_getD, hy]; rfl
        · rw [if_neg (by omega), List.getD_eq_getElem?_getD, List.getElem?_eq_none (by omega)]; rfl
      · simp only [e, if_false, beq_iff_eq]) xs.length 0 (by omega) k hk
  rw [show (0 : Int) = ((0 : Nat) : Int) from rfl, this, List.drop_zero]
  unfold renS
  cases hf : xs.findIdx? (fun x => x == a) with
  | none => rfl
  | some j =>
    obtain ⟨x, hx, _⟩ := findIdx_lt hf
    simp only [Nat.zero_add, hx, Option.bind_some, orOn]
theorem ref10_Rename_eq (k : Nat) (l : List (Int × Int)) (xs ys : List Int) (hl : l.length ≤ 274877906944) (hx : xs.length ≤ 1099511627776) (hk : l.length < k) (hk2 : xs.length < k) : ref10_Rename k l xs ys = some (l.map fun p => (renS xs ys p.1, renS xs ys p.2)) := by
  unfold ref10_Rename
  have := map_loop (by_ := 16) (F := ref10_Rename_l1 k l xs ys) (l := l) (f := fun p => (renS xs ys p.1, renS xs ys p.2)) (by omega) (by omega) (fun q out i h => by rw [ref10_Rename_l1, if_neg h])
    (fun q out i x hi hx' => by rw [ref10_Rename_l1, if_pos (by omega), idx_nat hx', Option.bind_some, wrap1 (by omega), ref10_One_eq k _ _ _ hx hk2, ref10_One_eq k _ _ _ hx hk2, Option.bind_some, Option.bind_some]) l.length 0 [] (by omega) rfl k (by omega)
  rw [show (0 : Int) = ((0 : Nat) : Int) from rfl, this, Option.bind_some]; simp
/-- A loop that compares two lists. -/
theorem same_loop {α β : Type} {F : Nat → Int → Option (Bool ⊕ β)} {a b : List α} {u : β} (hl : a.length = b.length) (hl2 : a.length ≤ 1099511627776)
    (h0 : ∀ q i, ¬ i < (a.length : Int) → F (q + 1) i = some (.inr u)) (h1 : ∀ q (i : Nat) x y, i < a.length → a[i]? = some x → b[i]? = some y → (x = y → F (q + 1) (i : Int) = F q ((i + 1 : Nat) : Int)) ∧ (x ≠ y → F (q + 1) (i : Int) = some (.inl false))) :
    ∀ (d i : Nat), i + d = a.length → ∀ q, d < q → (a.drop i = b.drop i → F q (i : Int) = some (.inr u)) ∧ (a.drop i ≠ b.drop i → F q (i : Int) = some (.inl false)) := by
  intro d
  induction d with
  | zero =>
    intro i hi q hq
    obtain ⟨q, rfl⟩ : ∃ m, q = m + 1 := ⟨q - 1, by omega⟩
    rw [h0 q i (by omega), List.drop_of_length_le (by omega), List.drop_of_length_le (by omega)]
    exact ⟨fun _ => rfl, fun h => absurd rfl h⟩
  | succ d ih =>
    intro i hi q hq
    obtain ⟨q, rfl⟩ : ∃ m, q = m + 1 := ⟨q - 1, by omega⟩
    obtain ⟨x, hx, hd⟩ := getE hi
    obtain ⟨y, hy, hd'⟩ := getE (xs := b) (i := i) (d := d) (by omega)
    obtain ⟨g1, g2⟩ := h1 q i x y (by omega) hx hy
    obtain ⟨i1, i2⟩ := ih (i + 1) (by omega) q (by omega)
    rw [hd, hd']
    refine ⟨fun h => ?_, fun h => ?_⟩
    · injection h with e1 e2
      rw [g1 e1, i1 e2]
    · by_cases e : x = y
      · rw [g1 e, i2 (fun e2 => h (by rw [e, e2]))]
      · exact g2 e
theorem same_eq (k : Nat) (a b : List (Int × Int)) (hl : a.length ≤ 1099511627776) (hk : a.length < k) : law10_same k a b = some (decide (a = b)) := by
  unfold law10_same
  by_cases he : a.length = b.length
  · rw [if_pos (by omega)]
    have := same_loop (F := law10_same_l1 a b) (a := a) (b := b) (u := ()) he hl (fun q i h => by rw [law10_same_l1, if_neg h])
      (fun q i x y hi hx hy => by
        rw [law10_same_l1, if_pos (by omega), idx_nat hx, Option.bind_some, idx_nat hy, Option.bind_some, wrap1 (by omega)]
        exact ⟨fun e => if_pos (beqQ.2 e), fun e => if_neg (fun h => e (beqQ.1 h))⟩) a.length 0 (by omega) k hk
    rw [show (0 : Int) = ((0 : Nat) : Int) from rfl]
    by_cases e : a = b
    · rw [this.1 (by rw [e]), Option.bind_some]; simp [orOn, e]
    · rw [this.2 (by simpa using e), Option.bind_some]; simp [orOn, e]
  · rw [if_neg (by omega)]; congr 1; symm; exact decide_eq_false (fun e => he (by rw [e]))
theorem samePairs_eq (k : Nat) (a b : List (Int × Int)) (hl : a.length ≤ 274877906944) (hk : a.length < k) : law10_samePairs k a b = some (decide (a = b)) := by
  unfold law10_samePairs
  rw [refPairs_eq k a hl hk, Option.bind_some]
  by_cases he : a.length = b.length
  · rw [if_pos (by omega)]
    have := same_loop (F := law10_samePairs_l1 b a) (a := a) (b := b) (u := ()) he (by omega) (fun q i h => by rw [law10_samePairs_l1, if_neg h])
      (fun q i x y hi hx hy => by
        rw [law10_samePairs_l1, if_pos (by omega), idx_nat hx, Option.bind_some, idx_nat hy, Option.bind_some, wrap1 (by omega)]
        exact ⟨fun e => if_pos (beqQ.2 e), fun e => if_neg (fun h => e (beqQ.1 h))⟩) a.length 0 (by omega) k hk
    rw [show (0 : Int) = ((0 : Nat) : Int) from rfl]
    by_cases e : a = b
    · rw [this.1 (by rw [e]), Option.bind_some]; simp [orOn, e]
    · rw [this.2 (by simpa using e), Option.bind_some]; simp [orOn, e]
  · rw [if_neg (by omega)]; congr 1; symm; exact decide_eq_false (fun e => he (by rw [e]))
end Go.Ch
