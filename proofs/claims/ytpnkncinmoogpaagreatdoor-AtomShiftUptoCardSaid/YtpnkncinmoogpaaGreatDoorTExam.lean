/- Chapter 10's examples, in plain Lean. -/
import Derived.Test.YtpnkncinmoogpaaGreatDoorTatomE
set_option linter.unusedVariables false
namespace Go.Ch
open Go Go.Eng Go.Proofs
theorem ms_eq {α : Type} [BEq α] [LawfulBEq α] (le : α → α → Bool) (anti : ∀ a b, le a b = true → le b a = true → a = b) (tr : ∀ a b c, le a b = true → le b c = true → le a c = true) (tot : ∀ a b, (le a b || le b a) = true) (zs ys : List α) (h1 : ys.isPerm zs = true) (h2 : ys.Pairwise (fun a b => le a b = true)) : zs.mergeSort le = ys := by
  refine (List.Perm.eq_of_pairwise (le := fun a b => le a b = true) (fun a b _ _ x y => anti a b x y) h2 (List.pairwise_mergeSort tr tot zs) ?_).symm
  exact (List.isPerm_iff.1 h1).trans (List.mergeSort_perm zs le).symm
def leI (x y : Int) : Bool := decide (x ≤ y)
theorem msI_eq (zs ys : List Int) (h1 : ys.isPerm zs = true) (h2 : ys.Pairwise (fun a b => leI a b = true)) : (zs.mergeSort fun x y => decide (x ≤ y)) = ys :=
  ms_eq leI (fun a b h1 h2 => by simp only [leI, decide_eq_true_eq] at *; omega) (fun a b c h1 h2 => by simp only [leI, decide_eq_true_eq] at *; omega) (fun a b => by simp only [leI, Bool.or_eq_true, decide_eq_true_eq]; omega) zs ys h1 h2
theorem msP_eq (zs ys : List (Int × Int)) (h1 : ys.isPerm zs = true) (h2 : ys.Pairwise (fun a b => leP a b = true)) : zs.mergeSort leP = ys :=
  ms_eq leP (fun _ _ => leP_anti) leP_trans leP_total zs ys h1 h2
theorem ex_point : pointA 1 = -2 := by decide
theorem ex_norm : normL [(3, 0), (2, 2), (-2, 3), (3, 0)] = [(-2, 3), (3, 0)] := by
  unfold normL
  rw [msP_eq _ [(-2, 3), (3, 0), (3, 0)] (by decide) (by decide)]
  decide
theorem ex_vars : varsL [(-2, 3), (3, 0)] = [0, 3] := by
  unfold varsL gatS
  rw [msI_eq _ [0, 3, 3] (by decide) (by decide)]
  decide
theorem ex_points : pointsL [(-2, 3), (3, 0)] = [1] := by
  unfold pointsL gatS
  rw [msI_eq _ [1] (by decide) (by decide)]
  decide
theorem ex_shift : ([(-2, 3), (3, 0)] : List (Int × Int)).map (fun p => (shiftA 2 p.1, shiftA 2 p.2)) = [(-2, 5), (5, 2)] := by decide
theorem ex_ren : ([(-2, 3), (3, 0)] : List (Int × Int)).map (fun p => (renA [3, -2] [7] p.1, renA [3, -2] [7] p.2)) = [(-2, 7), (7, 0)] := by decide
theorem itoa_one (n : Nat) (h : n < 10) : itoaB n = ⟨#[UInt8.ofNat (48 + n)]⟩ := by
  unfold itoaB Lib.itoa Lib.decDigits
  rw [if_neg (by omega), Int.toNat_natCast, dif_pos h]
theorem ex_texts : textsA [⟨#[76, 111]⟩, ⟨#[72, 105]⟩] [(-2, 3), (3, 0)] = ⟨#[72, 105, 32, 60, 61, 32, 39, 51, 44, 32, 39, 51, 32, 60, 61, 32, 39, 48]⟩ := by
  have e3 := itoa_one 3 (by omega)
  have e0 := itoa_one 0 (by omega)
  have h1 : textP [⟨#[76, 111]⟩, ⟨#[72, 105]⟩] (-2, 3) = ⟨#[72, 105, 32, 60, 61, 32, 39, 51]⟩ := by
    unfold textP textA
    rw [if_neg (by decide), if_pos (by decide), show itoaB (3 : Int) = _ from e3]; rfl
  have h2 : textP [⟨#[76, 111]⟩, ⟨#[72, 105]⟩] (3, 0) = ⟨#[39, 51, 32, 60, 61, 32, 39, 48]⟩ := by
    unfold textP textA
    rw [if_pos (by decide), if_pos (by decide), show itoaB (3 : Int) = _ from e3, show itoaB (0 : Int) = _ from e0]; rfl
  unfold textsA
  rw [List.map_cons, List.map_cons, List.map_nil, h1, h2, if_neg (by simp)]
  rfl
theorem ex_none : textsA [] [] = ⟨#[45]⟩ := by unfold textsA; rw [List.map_nil, if_pos rfl]
theorem ex_what : textA [] (-2) = ⟨#[63]⟩ := by unfold textA; rw [if_neg (by decide)]; rfl
end Go.Ch
