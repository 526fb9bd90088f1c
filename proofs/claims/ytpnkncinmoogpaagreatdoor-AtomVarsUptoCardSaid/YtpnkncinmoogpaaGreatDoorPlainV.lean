/- Plain Lean: the law AtomVars. -/
import Derived.Test.YtpnkncinmoogpaaGreatDoorPlainB
import Derived.Test.YtpnkncinmoogpaaGreatDoorTlawV
set_option linter.unusedVariables false
namespace Go.Ch
open Go Go.Eng
theorem AtomVars_plain (l : List (Int × Int)) (hl : l.length ≤ 1048576) (hr : inR l) : ∃ k, law10_AtomVars k l = some true := by
  refine ⟨4 * l.length + 4, ?_⟩
  have hlen := gat_len2 l
  have l3 : ∀ (x : Int) (b : Bool), law10_AtomVars_l3 (varsL l) x (4 * l.length + 4) b 0 = some (b || (varsL l).any (fun y => y == x)) := fun x b => by
    have := any_loop (F := fun q b i => law10_AtomVars_l3 (varsL l) x q b i) (l := varsL l) (p := fun y => y == x) (fun q b i h => by rw [law10_AtomVars_l3, if_neg h])
      (fun q b i y hi hy => by
        rw [law10_AtomVars_l3, if_pos (by omega), wrap1 (by omega)]
        cases b with
        | true => simp
        | false => rw [if_neg (by simp), idx_nat hy, Option.bind_some, Bool.false_or]) (varsL l).length 0 b (by omega) (4 * l.length + 4) (by omega)
    simpa using this
  have l4 : ∀ (x : Int) (b : Bool), law10_AtomVars_l4 (pointsL l) x (4 * l.length + 4) b 0 = some (b || (pointsL l).any (fun y => pointA y == x)) := fun x b => by
    have := any_loop (F := fun q b i => law10_AtomVars_l4 (pointsL l) x q b i) (l := pointsL l) (p := fun y => pointA y == x) (fun q b i h => by rw [law10_AtomVars_l4, if_neg h])
      (fun q b i y hi hy => by
        rw [law10_AtomVars_l4, if_pos (by omega), wrap1 (by omega)]
        cases b with
        | true => simp
        | false => rw [if_neg (by simp), idx_nat hy, Option.bind_some, Bool.false_or]; simp only [pointP, Option.bind_some]) (pointsL l).length 0 b (by omega) (4 * l.length + 4) (by omega)
    simpa using this
  have met : ∀ (p : Int × Int) (x : Int), p ∈ l → (x = p.1 ∨ x = p.2) → ((varsL l).any (fun y => y == x) || (pointsL l).any (fun y => pointA y == x)) = true := by
    intro p x hp hx
    have hrp := hr p hp
    by_cases h0 : 0 ≤ x
    · rw [List.any_eq_true.2 ⟨x, mem_varsL.2 ⟨h0, p, hp, hx⟩, by simp⟩, Bool.true_or]
    · have hm : (-1 - x) ∈ pointsL l := (mem_pointsL hr).2 ⟨by omega, p, hp, by rcases hx with h | h <;> omega⟩
      rw [List.any_eq_true.2 ⟨_, hm, by rw [pointA_of (by omega) (by rcases hx with h | h <;> omega)]; simp; omega⟩, Bool.or_true]
  have l2 : ∀ (p : Int × Int), p ∈ l → law10_AtomVars_l2 (4 * l.length + 4) (varsL l) (pointsL l) p (4 * l.length + 4) 0 = some (.inr ()) := fun p hp => by
    have := go_loop (F := law10_AtomVars_l2 (4 * l.length + 4) (varsL l) (pointsL l) p) (n := 2) (e := .inr ()) (fun q i h => by rw [law10_AtomVars_l2, if_neg (show ¬ i < (([p.1, p.2] : List Int).length : Int) from h)])
      (fun q i hi => by
        have hx : ∃ x, [p.1, p.2][i]? = some x ∧ (x = p.1 ∨ x = p.2) := by
          match i, hi with
          | 0, _ => exact ⟨p.1, rfl, .inl rfl⟩
          | 1, _ => exact ⟨p.2, rfl, .inr rfl⟩
        obtain ⟨x, hx, hxp⟩ := hx
        rw [law10_AtomVars_l2, if_pos (by simp only [List.length_cons, List.length_nil]; omega), idx_nat hx, Option.bind_some, l3, Option.bind_some, l4, Option.bind_some, Bool.false_or, if_pos (met p x hp hxp), wrap1 (by omega)]) 2 0 (by omega) (4 * l.length + 4) (by have := List.length_pos_of_mem hp; omega)
    exact this
  have l1 : law10_AtomVars_l1 (4 * l.length + 4) l (varsL l) (pointsL l) (4 * l.length + 4) 0 = some (.inr ()) := by
    have := go_loop (F := law10_AtomVars_l1 (4 * l.length + 4) l (varsL l) (pointsL l)) (n := l.length) (e := .inr ()) (fun q i h => by rw [law10_AtomVars_l1, if_neg h])
      (fun q i hi => by
        have hx : l[i]? = some l[i] := List.getElem?_eq_getElem hi
        rw [law10_AtomVars_l1, if_pos (by omega), idx_nat hx, Option.bind_some, l2 _ (List.getElem_mem hi), Option.bind_some, wrap1 (by omega)]; rfl) l.length 0 (by omega) (4 * l.length + 4) (by omega)
    exact this
  have l5 : law10_AtomVars_l5 (varsL l) (4 * l.length + 4) 0 = some (.inr ()) := by
    have := go_loop (F := law10_AtomVars_l5 (varsL l)) (n := (varsL l).length) (e := .inr ()) (fun q i h => by rw [law10_AtomVars_l5, if_neg h])
      (fun q i hi => by
        have hx : (varsL l)[i]? = some (varsL l)[i] := List.getElem?_eq_getElem hi
        have h0 := (mem_varsL.1 (List.getElem_mem hi)).1
        rw [law10_AtomVars_l5, if_pos (by omega), idx_nat hx, Option.bind_some, if_neg (by omega), wrap1 (by omega)]
        by_cases hz : i = 0
        · rw [if_neg (by omega)]
        · have hy : (varsL l)[i - 1]? = some ((varsL l)[i - 1]'(by omega)) := List.getElem?_eq_getElem (by omega)
          have := ris_get (varsL_ris l) hi (by omega)
          rw [if_pos (by omega), wrapm (by omega) (by omega), idx_nat hy, Option.bind_some, if_neg (by omega)]) (varsL l).length 0 (by omega) (4 * l.length + 4) (by omega)
    exact this
  have l6 : law10_AtomVars_l6 (pointsL l) (4 * l.length + 4) 0 = some (.inr ()) := by
    have := go_loop (F := law10_AtomVars_l6 (pointsL l)) (n := (pointsL l).length) (e := .inr ()) (fun q i h => by rw [law10_AtomVars_l6, if_neg h])
      (fun q i hi => by
        have hx : (pointsL l)[i]? = some (pointsL l)[i] := List.getElem?_eq_getElem hi
        have h0 := ((mem_pointsL hr).1 (List.getElem_mem hi)).1
        rw [law10_AtomVars_l6, if_pos (by omega), idx_nat hx, Option.bind_some, if_neg (by omega), wrap1 (by omega)]
        by_cases hz : i = 0
        · rw [if_neg (by omega)]
        · have hy : (pointsL l)[i - 1]? = some ((pointsL l)[i - 1]'(by omega)) := List.getElem?_eq_getElem (by omega)
          have := ris_get (pointsL_ris l) hi (by omega)
          rw [if_pos (by omega), wrapm (by omega) (by omega), idx_nat hy, Option.bind_some, if_neg (by omega)]) (pointsL l).length 0 (by omega) (4 * l.length + 4) (by omega)
    exact this
  unfold law10_AtomVars
  simp only [exP, Option.bind_some, if_true, varsP_ok (show l.length ≤ 274877906944 by omega), pointsP_ok (show l.length ≤ 274877906944 by omega), l1, l5, l6, orOn]
  rw [IntWalk.i64_in _ (by omega), IntWalk.i64_in _ (by omega), decide_eq_true (by omega)]

end Go.Ch
