/- Plain Lean: the law AtomNorm. -/
import Derived.Test.YtpnkncinmoogpaaGreatDoorPlainB
import Derived.Test.YtpnkncinmoogpaaGreatDoorTlawN
set_option linter.unusedVariables false
namespace Go.Ch
open Go Go.Eng
/-! ### AtomNorm -/
def dbl (acc : List (Int × Int)) (x : Int × Int) : List (Int × Int) := [x, x] ++ acc
theorem mem_dbl : ∀ (l acc : List (Int × Int)) (p : Int × Int), p ∈ l.foldl dbl acc ↔ p ∈ l ∨ p ∈ acc
  | [], acc, p => by simp
  | x :: l, acc, p => by
    rw [List.foldl_cons, mem_dbl l, List.mem_cons]
    simp only [dbl, List.mem_append, List.mem_cons, List.not_mem_nil, or_false]
    constructor
    · rintro (h | (h | h) | h) <;> simp [h]
    · rintro ((h | h) | h) <;> simp [h]
theorem len_dbl : ∀ (l acc : List (Int × Int)), (l.foldl dbl acc).length = 2 * l.length + acc.length
  | [], acc => by simp
  | x :: l, acc => by rw [List.foldl_cons, len_dbl l]; simp only [dbl, List.length_append, List.length_cons, List.length_nil]; omega
theorem AtomNorm_plain (l : List (Int × Int)) (hl : l.length ≤ 1048576) : ∃ k, law10_AtomNorm k l = some true := by
  refine ⟨4 * l.length + 4, ?_⟩
  have hn := normL_len l
  have l2 : ∀ (x : Int × Int) (b : Bool), law10_AtomNorm_l2 (normL l) x (4 * l.length + 4) b 0 = some (b || (normL l).any (fun y => decide (y = x))) := fun x b => by
    have := any_loop (F := fun q b i => law10_AtomNorm_l2 (normL l) x q b i) (l := normL l) (p := fun y => decide (y = x)) (fun q b i h => by rw [law10_AtomNorm_l2, if_neg h])
      (fun q b i y hi hy => by
        rw [law10_AtomNorm_l2, if_pos (by omega), wrap1 (by omega)]
        cases b with
        | true => simp
        | false =>
          rw [if_neg (by simp), idx_nat hy, Option.bind_some, Bool.false_or]
          congr 1
          by_cases e : y = x
          · rw [beqQ.2 e]; simp [e]
          · rw [decide_eq_false e]; cases hb : ((y.1 == x.1) && ((y.2 == x.2) && true)) with
            | false => rfl
            | true => exact absurd (beqQ.1 hb) e) (normL l).length 0 b (by omega) (4 * l.length + 4) (by omega)
    simpa using this
  have l1 : law10_AtomNorm_l1 (4 * l.length + 4) l (normL l) (4 * l.length + 4) [] 0 = some (.inr (l.foldl dbl [])) := by
    have := fold_loop (F := law10_AtomNorm_l1 (4 * l.length + 4) l (normL l)) (l := l) (st := dbl) (fin := fun b => .inr b) (fun i b => b.length = 2 * i) (fun q b i h => by rw [law10_AtomNorm_l1, if_neg h])
      (fun q b i x hi hx hI => by
        refine ⟨?_, by simp only [dbl, List.length_append, List.length_cons, List.length_nil]; omega⟩
        rw [law10_AtomNorm_l1, if_pos (by omega), idx_nat hx, Option.bind_some, apd_ok (by simp; omega) (by simp; omega), Option.bind_some, l2, Option.bind_some, wrap1 (by omega), if_pos]
        · rfl
        · by_cases e : x.1 = x.2
          · simp [e]
          · have : x ∈ normL l := mem_normL.2 ⟨List.mem_of_getElem? hx, e⟩
            rw [List.any_eq_true.2 ⟨x, this, by simp⟩, Bool.or_true]) l.length 0 [] (by omega) rfl (4 * l.length + 4) (by omega)
    simpa using this
  have l3 : law10_AtomNorm_l3 (normL l) (4 * l.length + 4) 0 = some (.inr ()) := by
    have := go_loop (F := law10_AtomNorm_l3 (normL l)) (n := (normL l).length) (e := .inr ()) (fun q i h => by rw [law10_AtomNorm_l3, if_neg h])
      (fun q i hi => by
        have hx : (normL l)[i]? = some (normL l)[i] := List.getElem?_eq_getElem hi
        have hne : (normL l)[i].1 ≠ (normL l)[i].2 := (mem_normL.1 (List.getElem_mem hi)).2
        rw [law10_AtomNorm_l3, if_pos (by omega), idx_nat hx, Option.bind_some, if_neg hne, wrap1 (by omega)]
        by_cases h0 : i = 0
        · rw [if_neg (by omega)]
        · have hw : IntKind.i64.wrap ((i : Int) - 1) = ((i - 1 : Nat) : Int) := by rw [IntWalk.i64_in _ (by omega)]; omega
          have hy : (normL l)[i - 1]? = some ((normL l)[i - 1]'(by omega)) := List.getElem?_eq_getElem (by omega)
          have hlt := List.pairwise_iff_getElem.1 (normL_ris l) (i - 1) i (by omega) hi (by omega)
          simp only [ltQ, decide_eq_true_eq] at hlt
          rw [if_pos (by omega), hw, idx_nat hy, Option.bind_some, if_neg (by omega)]
          by_cases h1 : ((normL l)[i - 1]'(by omega)).1 = (normL l)[i].1
          · rw [if_pos h1, if_neg (by omega)]
          · rw [if_neg h1]) (normL l).length 0 (by omega) (4 * l.length + 4) (by omega)
    exact this
  have hd : normL (l.foldl dbl []) = normL l := normL_ext fun p _ => by rw [mem_dbl]; simp
  unfold law10_AtomNorm
  simp only [exP, Option.bind_some, if_true, normP_ok (show l.length ≤ 274877906944 by omega), l1, l3, orOn, normP_ok (show (normL l).length ≤ 274877906944 by omega), normL_norm, same_eq _ _ _ (show (normL l).length ≤ 1099511627776 by omega) (show (normL l).length < 4 * l.length + 4 by omega),
    normP_ok (show (l.foldl dbl []).length ≤ 274877906944 by rw [len_dbl]; simp; omega), hd, decide_true]
  rw [decide_eq_true (by omega)]
end Go.Ch
