/- Plain Lean: lists in order, each once; what is found by an index. -/
import Derived.Test.YtpnkncinmoogpaaGreatDoorChAtomP
set_option linter.unusedVariables false
namespace Go.Ch
open Go Go.Eng

/-! ### in order, each once -/
structure LtOk {α : Type} (lt : α → α → Bool) : Prop where
  irr : ∀ a, lt a a = false
  tr : ∀ a b c, lt a b = true → lt b c = true → lt a c = true
  tot : ∀ a b, lt a b = false → lt b a = false → a = b
theorem LtOk.asymm {α : Type} {lt : α → α → Bool} (h : LtOk lt) {a b : α} (h1 : lt a b = true) : lt b a = false := by
  cases h2 : lt b a with
  | false => rfl
  | true => have := h.tr _ _ _ h1 h2; rw [h.irr] at this; cases this
abbrev Ris {α : Type} (lt : α → α → Bool) (xs : List α) : Prop := xs.Pairwise (fun a b => lt a b = true)
theorem ris_ext {α : Type} {lt : α → α → Bool} (h : LtOk lt) : ∀ {xs ys : List α}, Ris lt xs → Ris lt ys → (∀ a, a ∈ xs ↔ a ∈ ys) → xs = ys
  | [], [], _, _, _ => rfl
  | [], y :: ys, _, _, e => absurd ((e y).2 List.mem_cons_self) (by simp)
  | x :: xs, [], _, _, e => absurd ((e x).1 List.mem_cons_self) (by simp)
  | x :: xs, y :: ys, hx, hy, e => by
    obtain ⟨hx1, hx2⟩ := List.pairwise_cons.1 hx
    obtain ⟨hy1, hy2⟩ := List.pairwise_cons.1 hy
    have hxy : x = y := by
      rcases List.mem_cons.1 ((e x).1 List.mem_cons_self) with h1 | h1
      · exact h1
      · rcases List.mem_cons.1 ((e y).2 List.mem_cons_self) with h2 | h2
        · exact h2.symm
        · have := h.asymm (hy1 x h1); rw [hx1 y h2] at this; cases this
    subst hxy
    congr 1
    refine ris_ext h hx2 hy2 fun a => ⟨fun ha => ?_, fun ha => ?_⟩
    · rcases List.mem_cons.1 ((e a).1 (List.mem_cons_of_mem _ ha)) with rfl | h1
      · have := hx1 a ha; rw [h.irr] at this; cases this
      · exact h1
    · rcases List.mem_cons.1 ((e a).2 (List.mem_cons_of_mem _ ha)) with rfl | h1
      · have := hy1 a ha; rw [h.irr] at this; cases this
      · exact h1
theorem mem_cpt {α : Type} [DecidableEq α] : ∀ {xs : List α} {a : α}, a ∈ cpt xs ↔ a ∈ xs
  | [], a => by simp [cpt]
  | [x], a => by simp [cpt]
  | x :: y :: r, a => by
    simp only [cpt]
    split
    · rename_i e; subst e
      rw [mem_cpt (xs := x :: r)]; simp
    · rw [List.mem_cons, mem_cpt (xs := y :: r)]; simp
theorem cpt_ris {α : Type} [DecidableEq α] {lt : α → α → Bool} (h : LtOk lt) : ∀ {xs : List α}, xs.Pairwise (fun a b => lt b a = false) → Ris lt (cpt xs)
  | [], _ => by simp [cpt]
  | [x], _ => by simp [cpt]
  | x :: y :: r, hp => by
    obtain ⟨h1, h2⟩ := List.pairwise_cons.1 hp
    obtain ⟨h3, h4⟩ := List.pairwise_cons.1 h2
    simp only [cpt]
    split
    · exact cpt_ris h h2
    · rename_i hne
      refine List.pairwise_cons.2 ⟨fun a ha => ?_, cpt_ris h h2⟩
      have hm := mem_cpt.1 ha
      cases hl : lt x a with
      | true => rfl
      | false =>
        have e := h.tot x a hl (h1 a hm)
        subst e
        rcases List.mem_cons.1 hm with e | hm
        · exact absurd e hne
        · exact absurd (h.tot x y (h3 x hm) (h1 y List.mem_cons_self)) hne
/-- A new one into a list in order. -/
def addG {α : Type} [DecidableEq α] (lt : α → α → Bool) (n : α) : List α → List α
  | [] => [n]
  | x :: r => if lt x n = true then x :: addG lt n r else if x = n then x :: r else n :: x :: r
theorem mem_addG {α : Type} [DecidableEq α] {lt : α → α → Bool} {n a : α} : ∀ {xs : List α}, a ∈ addG lt n xs ↔ a = n ∨ a ∈ xs
  | [] => by simp [addG]
  | x :: r => by
    simp only [addG]
    split
    · rw [List.mem_cons, mem_addG (xs := r)]; simp only [List.mem_cons]
      constructor <;> (rintro (h | h | h) <;> simp [h])
    · split
      · rename_i e; subst e; simp
      · simp
theorem addG_ris {α : Type} [DecidableEq α] {lt : α → α → Bool} (h : LtOk lt) (n : α) : ∀ {xs : List α}, Ris lt xs → Ris lt (addG lt n xs)
  | [], _ => by simp [addG]
  | x :: r, hp => by
    obtain ⟨h1, h2⟩ := List.pairwise_cons.1 hp
    simp only [addG]
    split
    · rename_i hx
      refine List.pairwise_cons.2 ⟨fun a ha => ?_, addG_ris h n h2⟩
      rcases mem_addG.1 ha with rfl | ha
      · exact hx
      · exact h1 a ha
    · rename_i hx
      split
      · exact hp
      · rename_i hne
        have hnx : lt n x = true := by
          cases hl : lt n x with
          | true => rfl
          | false => exact absurd (h.tot x n (by simpa using hx) hl) hne
        refine List.pairwise_cons.2 ⟨fun a ha => ?_, hp⟩
        rcases List.mem_cons.1 ha with rfl | ha
        · exact hnx
        · exact h.tr _ _ _ hnx (h1 a ha)
/-- The same by the place where it goes. -/
theorem addG_at {α : Type} [DecidableEq α] {lt : α → α → Bool} (h : LtOk lt) {n : α} : ∀ {xs : List α} {j : Nat}, (∀ x ∈ xs.take j, lt x n = true) → (∀ x, xs[j]? = some x → lt x n = false) → j ≤ xs.length →
    addG lt n xs = if xs[j]? = some n then xs else xs.take j ++ [n] ++ xs.drop j
  | [], j, _, _, hj => by
    have : j = 0 := by simpa using hj
    subst this; simp [addG]
  | x :: r, 0, _, h2, _ => by
    have hx := h2 x rfl
    simp only [addG, hx, List.getElem?_cons_zero, Option.some.injEq, List.take_zero, List.drop_zero]
    simp
  | x :: r, j + 1, h1, h2, hj => by
    have hx := h1 x (by simp)
    have ih := addG_at h (xs := r) (j := j) (fun y hy => h1 y (by simp [hy])) (fun y hy => h2 y (by simpa using hy)) (by simpa using hj)
    simp only [addG, hx, if_true, ih, List.getElem?_cons_succ, List.take_succ_cons, List.drop_succ_cons]
    split <;> simp
theorem foldl_addG {α : Type} [DecidableEq α] {lt : α → α → Bool} (h : LtOk lt) : ∀ (ns xs : List α), Ris lt xs → Ris lt (ns.foldl (fun l n => addG lt n l) xs) ∧ ∀ a, a ∈ ns.foldl (fun l n => addG lt n l) xs ↔ a ∈ ns ∨ a ∈ xs
  | [], xs, hx => ⟨hx, fun a => by simp⟩
  | n :: ns, xs, hx => by
    obtain ⟨h1, h2⟩ := foldl_addG h ns (addG lt n xs) (addG_ris h n hx)
    refine ⟨h1, fun a => ?_⟩
    rw [List.foldl_cons, h2, mem_addG, List.mem_cons]
    constructor
    · rintro (h | rfl | h)
      · exact .inl (.inr h)
      · exact .inl (.inl rfl)
      · exact .inr h
    · rintro ((rfl | h) | h)
      · exact .inr (.inl rfl)
      · exact .inl h
      · exact .inr (.inr h)
theorem foldl_addG_len {α : Type} [DecidableEq α] {lt : α → α → Bool} : ∀ (n : α) (xs : List α), (addG lt n xs).length ≤ xs.length + 1
  | n, [] => by simp [addG]
  | n, x :: r => by
    simp only [addG]
    split
    · have := foldl_addG_len (lt := lt) n r; simp only [List.length_cons]; omega
    · split <;> simp

/-! ### numbers, pairs -/
def ltI (a b : Int) : Bool := decide (a < b)
theorem ltI_ok : LtOk ltI := ⟨fun a => by simp [ltI], fun a b c h1 h2 => by simp only [ltI, decide_eq_true_eq] at *; omega, fun a b h1 h2 => by simp only [ltI, decide_eq_false_iff_not] at *; omega⟩
def ltQ (a b : Int × Int) : Bool := decide (a.1 < b.1 ∨ a.1 = b.1 ∧ a.2 < b.2)
theorem ltQ_ok : LtOk ltQ := ⟨fun a => by simp [ltQ], fun a b c h1 h2 => by simp only [ltQ, decide_eq_true_eq] at *; omega, fun a b h1 h2 => by
  simp only [ltQ, decide_eq_false_iff_not] at *; exact Prod.ext (by omega) (by omega)⟩
theorem srt_ris (xs : List Int) : Ris ltI (cpt (xs.mergeSort fun x y => decide (x ≤ y))) := by
  refine cpt_ris ltI_ok ?_
  have := List.pairwise_mergeSort (le := fun (x y : Int) => decide (x ≤ y)) (fun a b c h1 h2 => by simp only [decide_eq_true_eq] at *; omega) (fun a b => by simp only [Bool.or_eq_true, decide_eq_true_eq]; omega) xs
  refine this.imp fun {a b} h => ?_
  simp only [ltI, decide_eq_true_eq, decide_eq_false_iff_not] at *; omega
theorem mem_srt {xs : List Int} {a : Int} : a ∈ cpt (xs.mergeSort fun x y => decide (x ≤ y)) ↔ a ∈ xs := by rw [mem_cpt, List.mem_mergeSort]

/-! ### by an index -/
theorem idx_nat {α : Type} {xs : List α} {i : Nat} {x : α} (h : xs[i]? = some x) : idx xs (i : Int) = some x := by
  unfold idx; rw [if_pos (by omega)]; simpa using h
theorem wrap1 {i : Nat} (h : i < 4611686018427387904) : IntKind.i64.wrap ((i : Int) + 1) = ((i + 1 : Nat) : Int) := wrapN i h
theorem slc_nat {α : Type} {xs : List α} {i j : Nat} (h1 : i ≤ j) (h2 : j ≤ xs.length) : slc xs (i : Int) (j : Int) = some ((xs.drop i).take (j - i)) := by
  unfold slc; rw [if_pos (by omega)]; simp
theorem apd_ok {α : Type} {b : Nat} {xs ys : List α} (h : (xs.length + ys.length) * b ≤ 140737488355328) (h' : xs.length + ys.length ≤ 140737488355328) : apd b xs ys = some (xs ++ ys) := by
  unfold apd; rw [if_pos ⟨h, h'⟩]
theorem cat_ok {a b : ByteArray} (h : a.size + b.size ≤ 9223372036854775807) : cat a b = some (a ++ b) := by
  unfold cat; rw [if_pos h]
end Go.Ch
