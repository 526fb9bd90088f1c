/- Chapter 10, plain Lean: what the code's loops compute. -/
import Derived.Test.YtpnkncinmoogpaaGreatDoorChAuto
set_option linter.unusedVariables false
namespace Go.Ch
open Go Go.Eng
section
variable {α : Type} [DecidableEq α]
/-- A list without neighbours that are the same. -/
def cpt : List α → List α
  | [] => []
  | [x] => [x]
  | x :: y :: r => if x = y then cpt (y :: r) else x :: cpt (y :: r)
theorem cpt_snoc : ∀ (xs : List α) (y z : α), cpt (xs ++ [y, z]) = if y = z then cpt (xs ++ [y]) else cpt (xs ++ [y]) ++ [z]
  | [], y, z => by simp only [List.nil_append, cpt]; split <;> simp_all
  | [x], y, z => by
    have h := cpt_snoc [] y z
    simp only [List.nil_append] at h
    simp only [List.cons_append, List.nil_append, cpt] at h ⊢
    split <;> split <;> simp_all
  | x :: x' :: r, y, z => by
    have h := cpt_snoc (x' :: r) y z
    simp only [List.cons_append] at h ⊢
    simp only [cpt]
    rw [h]
    split <;> split <;> simp_all
omit [DecidableEq α] in
theorem take_succ_eq {xs : List α} {k : Nat} {b : α} (hb : xs[k]? = some b) : xs.take (k + 1) = xs.take k ++ [b] := by rw [List.take_add_one, hb]; rfl
omit [DecidableEq α] in
theorem take_two {xs : List α} {k : Nat} {a b : α} (h0 : 1 ≤ k) (ha : xs[k - 1]? = some a) (hb : xs[k]? = some b) : xs.take (k + 1) = xs.take (k - 1) ++ [a, b] ∧ xs.take k = xs.take (k - 1) ++ [a] := by
  have e : k - 1 + 1 = k := by omega
  have h1 := take_succ_eq ha
  rw [e] at h1
  refine ⟨?_, h1⟩
  rw [take_succ_eq hb, h1]; simp
theorem cpt_ne {xs : List α} {k : Nat} {a b : α} (h0 : 1 ≤ k) (ha : xs[k - 1]? = some a) (hb : xs[k]? = some b) (hne : a ≠ b) : cpt (xs.take (k + 1)) = cpt (xs.take k) ++ [b] := by
  obtain ⟨h1, h2⟩ := take_two h0 ha hb
  rw [h1, cpt_snoc, if_neg hne, h2]
theorem cpt_eq {xs : List α} {k : Nat} {a : α} (h0 : 1 ≤ k) (ha : xs[k - 1]? = some a) (hb : xs[k]? = some a) : cpt (xs.take (k + 1)) = cpt (xs.take k) := by
  obtain ⟨h1, h2⟩ := take_two h0 ha hb
  rw [h1, cpt_snoc, if_pos rfl, h2]
theorem cpt_keep {xs : List α} {k : Nat} {a b : α} (h0 : 1 ≤ k) (h : cpt (xs.take k) = xs.take k) (ha : xs[k - 1]? = some a) (hb : xs[k]? = some b) (hne : a ≠ b) : cpt (xs.take (k + 1)) = xs.take (k + 1) := by
  rw [cpt_ne h0 ha hb hne, h, take_succ_eq hb]
theorem cpt_one (xs : List α) : cpt (xs.take 1) = xs.take 1 := by cases xs <;> simp only [List.take_succ_cons, List.take_zero, List.take_nil, cpt]
theorem cpt_short {xs : List α} (h : xs.length < 2) : cpt xs = xs := by
  match xs, h with
  | [], _ => rfl
  | [x], _ => rfl
/-- slices.Compact's inner loop: xs: as it was, ys: as it is, p: read, m: written. -/
def CI (xs ys : List α) (p m : Nat) : Prop := ys.length = xs.length ∧ m + 1 ≤ p ∧ p ≤ xs.length ∧ ys.take m = cpt (xs.take p) ∧ ∀ j, p ≤ j + 1 → ys[j]? = xs[j]?
theorem CI.start {xs : List α} {k : Nat} {a : α} (h0 : 1 ≤ k) (h : cpt (xs.take k) = xs.take k) (ha : xs[k - 1]? = some a) (hb : xs[k]? = some a) : CI xs xs (k + 1) k :=
  ⟨rfl, Nat.le_refl _, (List.getElem?_eq_some_iff.1 hb).1, by rw [cpt_eq h0 ha hb, h], fun _ _ => rfl⟩
theorem CI.eq {xs ys : List α} {p m : Nat} {a : α} (h : CI xs ys p m) (hb : ys[p]? = some a) (ha : ys[p - 1]? = some a) : CI xs ys (p + 1) m := by
  obtain ⟨h1, h2, h3, h4, h5⟩ := h
  have hp := (List.getElem?_eq_some_iff.1 hb).1
  rw [h5 _ (by omega)] at ha hb
  exact ⟨h1, by omega, by omega, by rw [cpt_eq (by omega) ha hb, h4], fun j hj => h5 j (by omega)⟩
theorem CI.ne {xs ys : List α} {p m : Nat} {a b : α} (h : CI xs ys p m) (hb : ys[p]? = some b) (ha : ys[p - 1]? = some a) (hne : a ≠ b) : CI xs (ys.set m b) (p + 1) (m + 1) := by
  obtain ⟨h1, h2, h3, h4, h5⟩ := h
  have hp := (List.getElem?_eq_some_iff.1 hb).1
  rw [h5 _ (by omega)] at ha hb
  refine ⟨by simp [h1], by omega, by omega, ?_, fun j hj => ?_⟩
  · rw [cpt_ne (by omega) ha hb hne, ← h4, take_succ_eq (xs := ys.set m b) (k := m) (b := b) (List.getElem?_set_self (by omega)), List.take_set_of_le (Nat.le_refl _)]
  · rw [List.getElem?_set_ne (by omega)]; exact h5 j (by omega)
theorem CI.done {xs ys : List α} {p m : Nat} (h : CI xs ys p m) (hp : p = xs.length) : ys.take m = cpt xs := by
  have := h.2.2.2.1
  rw [hp, List.take_length] at this
  exact this
end
/-- cmp.Compare at ints. -/
def cmpI (a b : Int) : Int := if a < b then -1 else if b < a then 1 else 0
/-- cmp.Or at ints. -/
def orI (xs : List Int) : Int := (xs.find? (fun x => !(x == 0))).getD 0
def cmpP (a b : Int × Int) : Int := orI [cmpI a.1 b.1, cmpI a.2 b.2]
theorem orI_found {xs : List Int} {k : Nat} {x : Int} (h : ∀ y ∈ xs.take k, y = 0) (hx : xs[k]? = some x) (hne : x ≠ 0) : orI xs = x := by
  have e : xs = xs.take k ++ x :: xs.drop (k + 1) := by
    have hl := (List.getElem?_eq_some_iff.1 hx)
    rw [← hl.2, List.getElem_cons_drop, List.take_append_drop]
  unfold orI
  rw [e, List.find?_append, List.find?_eq_none.2 (fun y hy => by simp [h y hy]), Option.none_or, List.find?_cons]
  have : (!(x == 0)) = true := by simp [hne]
  rw [this]; rfl
theorem orI_none {xs : List Int} (h : ∀ y ∈ xs, y = 0) : orI xs = 0 := by
  unfold orI
  rw [List.find?_eq_none.2 (fun y hy => by simp [h y hy])]; rfl
theorem all_take_succ {α : Type} {p : α → Prop} {xs : List α} {k : Nat} {x : α} (h : ∀ y ∈ xs.take k, p y) (hx : xs[k]? = some x) (hp : p x) : ∀ y ∈ xs.take (k + 1), p y := by
  intro y hy
  rw [List.take_add_one, hx] at hy
  rcases List.mem_append.1 hy with hy | hy
  · exact h y hy
  · simp at hy; rw [hy]; exact hp
/-- slices.DeleteFunc's loop. -/
def DI {α : Type} (d : α → Bool) (xs ys : List α) (p m : Nat) : Prop := ys.length = xs.length ∧ m < p ∧ p ≤ xs.length ∧ ys.take m = (xs.take p).filter (fun x => !d x) ∧ ∀ j, p ≤ j → ys[j]? = xs[j]?
theorem DI.start {α : Type} {d : α → Bool} {xs : List α} {i : Nat} {x : α} (h : ∀ y ∈ xs.take i, d y = false) (hx : xs[i]? = some x) (hd : d x = true) : DI d xs xs (i + 1) i := by
  refine ⟨rfl, by omega, (List.getElem?_eq_some_iff.1 hx).1, ?_, fun _ _ => rfl⟩
  rw [List.take_add_one, hx, List.filter_append, List.filter_eq_self.2 (fun y hy => by simp [h y hy])]
  simp [hd]
theorem DI.del {α : Type} {d : α → Bool} {xs ys : List α} {p m : Nat} {x : α} (h : DI d xs ys p m) (hx : ys[p]? = some x) (hd : d x = true) : DI d xs ys (p + 1) m := by
  obtain ⟨h1, h2, h3, h4, h5⟩ := h
  have hl := (List.getElem?_eq_some_iff.1 hx).1
  rw [h5 p (Nat.le_refl _)] at hx
  refine ⟨h1, by omega, by omega, ?_, fun j hj => h5 j (by omega)⟩
  rw [List.take_add_one, hx, List.filter_append, h4]; simp [hd]
theorem DI.keep {α : Type} {d : α → Bool} {xs ys : List α} {p m : Nat} {x : α} (h : DI d xs ys p m) (hx : ys[p]? = some x) (hd : d x = false) : DI d xs (ys.set m x) (p + 1) (m + 1) := by
  obtain ⟨h1, h2, h3, h4, h5⟩ := h
  have hl := (List.getElem?_eq_some_iff.1 hx).1
  rw [h5 p (Nat.le_refl _)] at hx
  refine ⟨by simp [h1], by omega, by omega, ?_, fun j hj => ?_⟩
  · rw [take_succ_eq hx, List.filter_append, ← h4, take_succ_eq (xs := ys.set m x) (k := m) (b := x) (List.getElem?_set_self (by omega)), List.take_set_of_le (Nat.le_refl _)]; simp [hd]
  · rw [List.getElem?_set_ne (by omega)]; exact h5 j (by omega)
theorem DI.done {α : Type} {d : α → Bool} {xs ys : List α} {p m : Nat} (h : DI d xs ys p m) (hp : p = xs.length) : ys.take m = xs.filter (fun x => !d x) := by
  have := h.2.2.2.1
  rw [hp, List.take_length] at this
  exact this
def gatA (fv : Int → Int) (fb : Int → Bool) (ys : List Int) : List Int := ys.filterMap fun a => if fb a then some (fv a) else none
def gat (fv : Int → Int) (fb : Int → Bool) (l : List (Int × Int)) : List Int := l.flatMap fun p => gatA fv fb [p.1, p.2]
theorem gat_snoc {fv : Int → Int} {fb : Int → Bool} {xs : List (Int × Int)} {k : Nat} {x : Int × Int} (h : xs[k]? = some x) : gat fv fb (xs.take (k + 1)) = gat fv fb (xs.take k) ++ gatA fv fb [x.1, x.2] := by
  unfold gat; rw [List.take_add_one, h, List.flatMap_append]; simp
theorem gatA_t {fv : Int → Int} {fb : Int → Bool} {ys : List Int} {q : Nat} {y : Int} (h : ys[q]? = some y) (hb : fb y = true) : gatA fv fb (ys.take (q + 1)) = gatA fv fb (ys.take q) ++ [fv y] := by
  unfold gatA; rw [List.take_add_one, h, List.filterMap_append]; simp [hb]
theorem gatA_f {fv : Int → Int} {fb : Int → Bool} {ys : List Int} {q : Nat} {y : Int} (h : ys[q]? = some y) (hb : fb y = false) : gatA fv fb (ys.take (q + 1)) = gatA fv fb (ys.take q) := by
  unfold gatA; rw [List.take_add_one, h, List.filterMap_append]; simp [hb]
theorem gatA_len (fv : Int → Int) (fb : Int → Bool) (ys : List Int) : (gatA fv fb ys).length ≤ ys.length := List.length_filterMap_le _ _
theorem gat_len (fv : Int → Int) (fb : Int → Bool) (xs : List (Int × Int)) : (gat fv fb xs).length ≤ 2 * xs.length := by
  induction xs with
  | nil => simp [gat]
  | cons x r ih =>
    have := gatA_len fv fb [x.1, x.2]
    unfold gat at ih ⊢
    simp only [List.flatMap_cons, List.length_append, List.length_cons, List.length_nil] at *
    omega
theorem gat_bound {fv : Int → Int} {fb : Int → Bool} {xs : List (Int × Int)} {k n : Nat} {ys : List Int} {q : Nat} (h : n = (gat fv fb (xs.take k) ++ gatA fv fb (ys.take q)).length) : n ≤ 2 * k + q := by
  have h1 := gat_len fv fb (xs.take k)
  have h2 := gatA_len fv fb (ys.take q)
  simp only [List.length_append, List.length_take] at *
  omega
theorem wrapP (q : Nat) (h1 : 1 ≤ q) (h2 : q < 4611686018427387904) : IntKind.i64.wrap ((q : Int) - 1) = ((q - 1 : Nat) : Int) := by
  have : ((q : Int) - 1) = ((q - 1 : Nat) : Int) := by omega
  rw [this]
  cases hq : q - 1 with
  | zero => rfl
  | succ n => exact wrapN n (by omega)
def chI (x : Int) : List Value := [.int .i64 x]
def chP (p : Int × Int) : List Value := [.int .i64 p.1, .int .i64 p.2]
def chS (x : ByteArray) : List Value := [.string x]
instance : OneE chI := ⟨fun x v hv => by rcases List.mem_singleton.1 hv with rfl; rfl⟩
instance : OneE chS := ⟨fun x v hv => by rcases List.mem_singleton.1 hv with rfl; rfl⟩
instance : OneE chP := ⟨fun x v hv => by rcases List.mem_cons.1 hv with rfl | hv; · rfl
                                         · rcases List.mem_singleton.1 hv with rfl; rfl⟩
theorem bnot_true {b : Bool} (h : (!b) = true) : b = false := by simpa using h
theorem bnot_false {b : Bool} (h : (!b) = false) : b = true := by simpa using h
theorem beqI_t {a b : Int} (h : (a == b) = true) : a = b := eq_of_beq h
theorem beqI_f {a b : Int} (h : (a == b) = false) : a ≠ b := ne_of_beq_false h
theorem beqP_t {a b : Int × Int} (h : ((a.1 == b.1) && ((a.2 == b.2) && true)) = true) : a = b := by
  simp only [Bool.and_true, Bool.and_eq_true] at h
  exact Prod.ext (eq_of_beq h.1) (eq_of_beq h.2)
theorem beqP_f {a b : Int × Int} (h : ((a.1 == b.1) && ((a.2 == b.2) && true)) = false) : a ≠ b := fun e => by subst e; simp at h
end Go.Ch
