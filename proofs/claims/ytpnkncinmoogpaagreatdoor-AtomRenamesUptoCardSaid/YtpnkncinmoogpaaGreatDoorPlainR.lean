/- Plain Lean: what chapter 10's references compute. -/
import Derived.Test.YtpnkncinmoogpaaGreatDoorPlainA
import Derived.Test.YtpnkncinmoogpaaGreatDoorTref
set_option linter.unusedVariables false
namespace Go.Ch
open Go Go.Eng
theorem getE {α : Type} {xs : List α} {i d : Nat} (h : i + (d + 1) = xs.length) : ∃ x, xs[i]? = some x ∧ xs.drop i = x :: xs.drop (i + 1) :=
  ⟨xs[i]'(by omega), List.getElem?_eq_getElem (by omega), List.drop_eq_getElem_cons (by omega)⟩
theorem take_mem {α : Type} {xs : List α} {i : Nat} {x : α} (hx : xs[i]? = some x) {p : α → Prop} (h : ∀ y ∈ xs.take i, p y) (h1 : p x) : ∀ y ∈ xs.take (i + 1), p y := by
  intro y hy
  rw [List.take_add_one, hx] at hy
  rcases List.mem_append.1 hy with hy | hy
  · exact h y hy
  · rcases List.mem_singleton.1 hy with rfl; exact h1
theorem Add_l1 (l : List Int) (n : Int) (hl : l.length ≤ 1099511627776) : ∀ (d i : Nat), i + d = l.length → (∀ x ∈ l.take i, ltI x n = true) →
    ∃ j : Nat, j ≤ l.length ∧ (∀ x ∈ l.take j, ltI x n = true) ∧ (∀ x, l[j]? = some x → ltI x n = false) ∧ ∀ q, d < q → ref10_Add_l1 l n q (i : Int) = some (j : Int) := by
  intro d
  induction d with
  | zero =>
    intro i hi h
    refine ⟨i, by omega, h, fun x hx => ?_, fun q hq => ?_⟩
    · rw [List.getElem?_eq_none (by omega)] at hx; cases hx
    · obtain ⟨q, rfl⟩ : ∃ m, q = m + 1 := ⟨q - 1, by omega⟩
      rw [ref10_Add_l1, if_neg (by omega)]
  | succ d ih =>
    intro i hi h
    obtain ⟨x, hx, _⟩ := getE hi
    by_cases hlt : x < n
    · obtain ⟨j, h1, h2, h3, h4⟩ := ih (i + 1) (by omega) (take_mem hx h (by simp [ltI, hlt]))
      refine ⟨j, h1, h2, h3, fun q hq => ?_⟩
      obtain ⟨q, rfl⟩ : ∃ m, q = m + 1 := ⟨q - 1, by omega⟩
      rw [ref10_Add_l1, if_pos (by omega), idx_nat hx, Option.bind_some, if_pos hlt, wrap1 (by omega)]
      exact h4 q (by omega)
    · refine ⟨i, by omega, h, fun y hy => ?_, fun q hq => ?_⟩
      · rw [hx] at hy; injection hy with hy; subst hy; simp [ltI]; omega
      · obtain ⟨q, rfl⟩ : ∃ m, q = m + 1 := ⟨q - 1, by omega⟩
        rw [ref10_Add_l1, if_pos (by omega), idx_nat hx, Option.bind_some, if_neg hlt]
theorem ref10_Add_eq (k : Nat) (l : List Int) (n : Int) (hl : l.length ≤ 1099511627776) (hk : l.length < k) : ref10_Add k l n = some (addG ltI n l) := by
  obtain ⟨j, h1, h2, h3, h4⟩ := Add_l1 l n hl l.length 0 (by omega) (by simp)
  have hA := addG_at ltI_ok h2 h3 h1
  have h5 := h4 k hk
  have e0 : slc l 0 (j : Int) = some (l.take j) := by have := slc_nat (xs := l) (i := 0) (j := j) (by omega) h1; simpa using this
  have e1 : slc l (j : Int) (l.length : Int) = some (l.drop j) := by
    have := slc_nat (xs := l) (i := j) (j := l.length) h1 (Nat.le_refl _); rw [this]; congr 1
    exact List.take_of_length_le (by rw [List.length_drop]; omega)
  have hlt : (l.take j).length = j := by rw [List.length_take]; omega
  have a0 : apd 8 ([] : List Int) (l.take j) = some (l.take j) := by rw [apd_ok (by simp; omega) (by simp; omega)]; simp
  have a1 : apd 8 (l.take j) [n] = some (l.take j ++ [n]) := apd_ok (by simp; omega) (by simp; omega)
  have a2 : apd 8 (l.take j ++ [n]) (l.drop j) = some (l.take j ++ [n] ++ l.drop j) := apd_ok (by simp; omega) (by simp; omega)
  have hrest : ((slc l 0 (j : Int)).bind fun s46 => (slc l (j : Int) (l.length : Int)).bind fun s52 => (apd 8 ([] : List Int) s46).bind fun ys58 => (apd 8 ys58 [n]).bind fun ys67 => (apd 8 ys67 s52).bind fun ys74 => some ys74) = some (l.take j ++ [n] ++ l.drop j) := by
    simp only [e0, e1, a0, a1, a2, Option.bind_some]
  unfold ref10_Add
  rw [show (0 : Int) = ((0 : Nat) : Int) from rfl, h5, Option.bind_some]
  by_cases hj : j < l.length
  · rw [if_pos (by omega)]
    have hx : l[j]? = some l[j] := List.getElem?_eq_getElem hj
    rw [idx_nat hx, Option.bind_some]
    by_cases e : l[j] = n
    · rw [if_pos e, hA, if_pos (by rw [hx, e])]
    · rw [if_neg e, hA, if_neg (by rw [hx]; exact fun h => e (Option.some.inj h))]; exact hrest
  · rw [if_neg (by omega), hA, if_neg (by rw [List.getElem?_eq_none (by omega)]; exact fun h => by cases h)]; exact hrest

def varsOf (p : Int × Int) : List Int := (if p.1 ≥ 0 then [p.1] else []) ++ (if p.2 ≥ 0 then [p.2] else [])
def pointsOf (p : Int × Int) : List Int := (if p.1 < 0 then [-1 - p.1] else []) ++ (if p.2 < 0 then [-1 - p.2] else [])
theorem Vars_l1 (k : Nat) (l : List (Int × Int)) (hl : l.length ≤ 274877906944) (hk : 2 * l.length < k) : ∀ (d i : Nat) (out : List Int), i + d = l.length → out.length ≤ 2 * i → ∀ q, d < q → ref10_Vars_l1 k l q out (i : Int) = some (((l.drop i).flatMap varsOf).foldl (fun l n => addG ltI n l) out) := by
  intro d
  induction d with
  | zero =>
    intro i out hi ho q hq
    obtain ⟨q, rfl⟩ : ∃ m, q = m + 1 := ⟨q - 1, by omega⟩
    rw [ref10_Vars_l1, if_neg (by omega), List.drop_of_length_le (by omega)]; rfl
  | succ d ih =>
    intro i out hi ho q hq
    obtain ⟨q, rfl⟩ : ∃ m, q = m + 1 := ⟨q - 1, by omega⟩
    obtain ⟨x, hx, hd⟩ := getE hi
    rw [ref10_Vars_l1, if_pos (by omega), idx_nat hx, Option.bind_some, wrap1 (by omega), hd, List.flatMap_cons, List.foldl_append]
    have l1 := foldl_addG_len (lt := ltI) x.1 out
    have l2 := foldl_addG_len (lt := ltI) x.2 out
    have l3 := foldl_addG_len (lt := ltI) x.2 (addG ltI x.1 out)
    by_cases h1 : x.1 ≥ 0 <;> by_cases h2 : x.2 ≥ 0
    · rw [if_pos h1, ref10_Add_eq k _ _ (by omega) (by omega), Option.bind_some, if_pos h2, ref10_Add_eq k _ _ (by omega) (by omega), Option.bind_some, ih _ _ (by omega) (by omega) q (by omega)]; simp [varsOf, h1, h2]
    · rw [if_pos h1, ref10_Add_eq k _ _ (by omega) (by omega), Option.bind_some, if_neg h2, ih _ _ (by omega) (by omega) q (by omega)]; simp [varsOf, h1, h2]
    · rw [if_neg h1, if_pos h2, ref10_Add_eq k _ _ (by omega) (by omega), Option.bind_some, ih _ _ (by omega) (by omega) q (by omega)]; simp [varsOf, h1, h2]
    · rw [if_neg h1, if_neg h2, ih _ _ (by omega) (by omega) q (by omega)]; simp [varsOf, h1, h2]
theorem ref10_Vars_eq (k : Nat) (l : List (Int × Int)) (hl : l.length ≤ 274877906944) (hk : 2 * l.length < k) : ref10_Vars k l = some ((l.flatMap varsOf).foldl (fun l n => addG ltI n l) []) := by
  unfold ref10_Vars
  have := Vars_l1 k l hl hk l.length 0 [] (by omega) (by simp) k (by omega)
  rw [show (0 : Int) = ((0 : Nat) : Int) from rfl, this, Option.bind_some, List.drop_zero]
theorem ref10_PointOf_eq (a : Int) (h : a < 0) (h0 : -9223372036854775808 ≤ a) : ref10_PointOf a = some (-1 - a) := by
  unfold ref10_PointOf; rw [if_neg (by omega), IntWalk.i64_in _ (by omega)]
theorem Points_l1 (k : Nat) (l : List (Int × Int)) (hl : l.length ≤ 274877906944) (hk : 2 * l.length < k) (hr : ∀ p ∈ l, (-9223372036854775808 ≤ p.1) ∧ (-9223372036854775808 ≤ p.2)) : ∀ (d i : Nat) (out : List Int), i + d = l.length → out.length ≤ 2 * i → ∀ q, d < q → ref10_Points_l1 k l q out (i : Int) = some (((l.drop i).flatMap pointsOf).foldl (fun l n => addG ltI n l) out) := by
  intro d
  induction d with
  | zero =>
    intro i out hi ho q hq
    obtain ⟨q, rfl⟩ : ∃ m, q = m + 1 := ⟨q - 1, by omega⟩
    rw [ref10_Points_l1, if_neg (by omega), List.drop_of_length_le (by omega)]; rfl
  | succ d ih =>
    intro i out hi ho q hq
    obtain ⟨q, rfl⟩ : ∃ m, q = m + 1 := ⟨q - 1, by omega⟩
    obtain ⟨x, hx, hd⟩ := getE hi
    obtain ⟨r1, r2⟩ := hr x (List.mem_of_getElem? hx)
    rw [ref10_Points_l1, if_pos (by omega), idx_nat hx, Option.bind_some, wrap1 (by omega), hd, List.flatMap_cons, List.foldl_append]
    have l1 := foldl_addG_len (lt := ltI) (-1 - x.1) out
    have l2 := foldl_addG_len (lt := ltI) (-1 - x.2) out
    have l3 := foldl_addG_len (lt := ltI) (-1 - x.2) (addG ltI (-1 - x.1) out)
    by_cases h1 : x.1 < 0 <;> by_cases h2 : x.2 < 0
    · rw [if_pos h1, ref10_PointOf_eq _ h1 r1, Option.bind_some, ref10_Add_eq k _ _ (by omega) (by omega), Option.bind_some, if_pos h2, ref10_PointOf_eq _ h2 r2, Option.bind_some, ref10_Add_eq k _ _ (by omega) (by omega), Option.bind_some, ih _ _ (by omega) (by omega) q (by omega)]; simp [pointsOf, h1, h2]
    · rw [if_pos h1, ref10_PointOf_eq _ h1 r1, Option.bind_some, ref10_Add_eq k _ _ (by omega) (by omega), Option.bind_some, if_neg h2, ih _ _ (by omega) (by omega) q (by omega)]; simp [pointsOf, h1, h2]
    · rw [if_neg h1, if_pos h2, ref10_PointOf_eq _ h2 r2, Option.bind_some, ref10_Add_eq k _ _ (by omega) (by omega), Option.bind_some, ih _ _ (by omega) (by omega) q (by omega)]; simp [pointsOf, h1, h2]
    · rw [if_neg h1, if_neg h2, ih _ _ (by omega) (by omega) q (by omega)]; simp [pointsOf, h1, h2]
theorem ref10_Points_eq (k : Nat) (l : List (Int × Int)) (hl : l.length ≤ 274877906944) (hk : 2 * l.length < k) (hr : ∀ p ∈ l, (-9223372036854775808 ≤ p.1) ∧ (-9223372036854775808 ≤ p.2)) : ref10_Points k l = some ((l.flatMap pointsOf).foldl (fun l n => addG ltI n l) []) := by
  unfold ref10_Points
  have := Points_l1 k l hl hk hr l.length 0 [] (by omega) (by simp) k (by omega)
  rw [show (0 : Int) = ((0 : Nat) : Int) from rfl, this, Option.bind_some, List.drop_zero]

/-! ### Norm -/
theorem Norm_l2 (l : List (Int × Int)) (n : Int × Int) (hl : l.length ≤ 1099511627776) : ∀ (d i : Nat), i + d = l.length → (∀ x ∈ l.take i, ltQ x n = true) →
    ∃ j : Nat, j ≤ l.length ∧ (∀ x ∈ l.take j, ltQ x n = true) ∧ (∀ x, l[j]? = some x → ltQ x n = false) ∧ ∀ q, d < q → ref10_Norm_l2 l n q (i : Int) = some (j : Int) := by
  intro d
  induction d with
  | zero =>
    intro i hi h
    refine ⟨i, by omega, h, fun x hx => ?_, fun q hq => ?_⟩
    · rw [List.getElem?_eq_none (by omega)] at hx; cases hx
    · obtain ⟨q, rfl⟩ : ∃ m, q = m + 1 := ⟨q - 1, by omega⟩
      rw [ref10_Norm_l2, if_neg (by omega)]
  | succ d ih =>
    intro i hi h
    obtain ⟨x, hx, _⟩ := getE hi
    by_cases hlt : ltQ x n = true
    · obtain ⟨j, h1, h2, h3, h4⟩ := ih (i + 1) (by omega) (take_mem hx h hlt)
      refine ⟨j, h1, h2, h3, fun q hq => ?_⟩
      obtain ⟨q, rfl⟩ : ∃ m, q = m + 1 := ⟨q - 1, by omega⟩
      rw [ref10_Norm_l2, if_pos (by omega), idx_nat hx, Option.bind_some, wrap1 (by omega), h4 q (by omega)]
      simp only [ltQ, decide_eq_true_eq] at hlt
      by_cases h5 : x.1 < n.1
      · rw [if_pos h5]
      · rw [if_neg h5, if_pos (by omega), if_pos (by omega)]
    · refine ⟨i, by omega, h, fun y hy => ?_, fun q hq => ?_⟩
      · rw [hx] at hy; injection hy with hy; subst hy; simpa using hlt
      · obtain ⟨q, rfl⟩ : ∃ m, q = m + 1 := ⟨q - 1, by omega⟩
        rw [ref10_Norm_l2, if_pos (by omega), idx_nat hx, Option.bind_some]
        simp only [ltQ, decide_eq_true_eq] at hlt
        rw [if_neg (by omega)]
        by_cases h5 : x.1 = n.1
        · rw [if_pos h5, if_neg (by omega)]
        · rw [if_neg h5]
def normS (out : List (Int × Int)) (x : Int × Int) : List (Int × Int) := if x.1 = x.2 then out else addG ltQ x out
theorem beqQ {a b : Int × Int} : ((a.1 == b.1) && ((a.2 == b.2) && true)) = true ↔ a = b := by
  constructor
  · intro h; simp only [Bool.and_true, Bool.and_eq_true, beq_iff_eq] at h; exact Prod.ext h.1 h.2
  · intro h; subst h; simp
theorem Norm_l1 (k : Nat) (l : List (Int × Int)) (hl : l.length ≤ 274877906944) (hk : l.length < k) : ∀ (d i : Nat) (out : List (Int × Int)), i + d = l.length → out.length ≤ i → ∀ q, d < q → ref10_Norm_l1 k l q out (i : Int) = some ((l.drop i).foldl normS out) := by
  intro d
  induction d with
  | zero =>
    intro i out hi ho q hq
    obtain ⟨q, rfl⟩ : ∃ m, q = m + 1 := ⟨q - 1, by omega⟩
    rw [ref10_Norm_l1, if_neg (by omega), List.drop_of_length_le (by omega)]; rfl
  | succ d ih =>
    intro i out hi ho q hq
    obtain ⟨q, rfl⟩ : ∃ m, q = m + 1 := ⟨q - 1, by omega⟩
    obtain ⟨x, hx, hd⟩ := getE hi
    obtain ⟨j, h1, h2, h3, h4⟩ := Norm_l2 out x (by omega) out.length 0 (by omega) (by simp)
    have hA := addG_at ltQ_ok h2 h3 h1
    have h5 := h4 k (by omega)
    have e0 : slc out 0 (j : Int) = some (out.take j) := by have := slc_nat (xs := out) (i := 0) (j := j) (by omega) h1; simpa using this
    have e1 : slc out (j : Int) (out.length : Int) = some (out.drop j) := by
      have := slc_nat (xs := out) (i := j) (j := out.length) h1 (Nat.le_refl _); rw [this]; congr 1
      exact List.take_of_length_le (by rw [List.length_drop]; omega)
    have hlt : (out.take j).length = j := by rw [List.length_take]; omega
    have a0 : apd 16 ([] : List (Int × Int)) (out.take j) = some (out.take j) := by rw [apd_ok (by simp; omega) (by simp; omega)]; simp
    have a1 : apd 16 (out.take j) [x] = some (out.take j ++ [x]) := apd_ok (by simp; omega) (by simp; omega)
    have a2 : apd 16 (out.take j ++ [x]) (out.drop j) = some (out.take j ++ [x] ++ out.drop j) := apd_ok (by simp; omega) (by simp; omega)
    have hlen : (out.take j ++ [x] ++ out.drop j).length ≤ i + 1 := by simp; omega
    rw [ref10_Norm_l1, if_pos (by omega), idx_nat hx, Option.bind_some, wrap1 (by omega), hd, List.foldl_cons, show (0 : Int) = ((0 : Nat) : Int) from rfl, h5, Option.bind_some]
    simp only [show ((0 : Nat) : Int) = 0 from rfl]
    by_cases hxx : x.1 = x.2
    · rw [if_pos hxx, ih _ _ (by omega) (by omega) q (by omega)]; simp only [normS, if_pos hxx]
    · rw [if_neg hxx]
      have hN : normS out x = if out[j]? = some x then out else out.take j ++ [x] ++ out.drop j := by simp only [normS, if_neg hxx, hA]
      by_cases hj : j < out.length
      · have hy : out[j]? = some out[j] := List.getElem?_eq_getElem hj
        rw [if_pos (by omega), idx_nat hy, Option.bind_some]
        by_cases e : out[j] = x
        · rw [if_pos (beqQ.2 e), hN, if_pos (by rw [hy, e]), ih _ _ (by omega) (by omega) q (by omega)]
        · rw [if_neg (fun h => e (beqQ.1 h)), hN, if_neg (by rw [hy]; exact fun h => e (Option.some.inj h))]
          simp only [e0, e1, a0, a1, a2, Option.bind_some]
          exact ih _ _ (by omega) hlen q (by omega)
      · rw [if_neg (by omega), hN, if_neg (by rw [List.getElem?_eq_none (by omega)]; exact fun h => by cases h)]
        simp only [e0, e1, a0, a1, a2, Option.bind_some]
        exact ih _ _ (by omega) hlen q (by omega)
theorem ref10_Norm_eq (k : Nat) (l : List (Int × Int)) (hl : l.length ≤ 274877906944) (hk : l.length < k) : ref10_Norm k l = some (l.foldl normS []) := by
  unfold ref10_Norm
  have := Norm_l1 k l hl hk l.length 0 [] (by omega) (by simp) k (by omega)
  rw [show (0 : Int) = ((0 : Nat) : Int) from rfl, this, Option.bind_some, List.drop_zero]
end Go.Ch
