/- Plain Lean: the law AtomRenames. -/
import Derived.Test.YtpnkncinmoogpaaGreatDoorPlainB
import Derived.Test.YtpnkncinmoogpaaGreatDoorTlawR
set_option linter.unusedVariables false
namespace Go.Ch
open Go Go.Eng
def toL (n : Int) (m : Nat) : List Int := (List.range m).map fun (i : Nat) => -1000001 - n - (i : Int)
theorem toL_get {n : Int} {m i : Nat} (h : i < m) : (toL n m)[i]? = some (-1000001 - n - (i : Int)) := by simp [toL, h]
theorem toL_succ (n : Int) (m : Nat) : toL n (m + 1) = toL n m ++ [-1000001 - n - (m : Int)] := by simp [toL, List.range_succ]
theorem AtomRenames_plain (l : List (Int × Int)) (n : Int) (hl : l.length ≤ 1048576) (hr : inR l) (hn : 0 ≤ n ∧ n ≤ 255) : ∃ k, law10_AtomRenames k l n = some true := by
  refine ⟨4 * l.length + 4, ?_⟩
  have hlen := gat_len2 l
  have hv : (varsL l).length ≤ 2097152 := by omega
  have l1 : ∀ (d i : Nat), i + d = (varsL l).length → ∀ q, d < q → law10_AtomRenames_l1 n (varsL l) q (toL n i) (i : Int) = some (toL n (varsL l).length) := by
    intro d
    induction d with
    | zero =>
      intro i hi q hq
      obtain ⟨q, rfl⟩ : ∃ m, q = m + 1 := ⟨q - 1, by omega⟩
      rw [law10_AtomRenames_l1, if_neg (by omega), show i = (varsL l).length by omega]
    | succ d ih =>
      intro i hi q hq
      obtain ⟨q, rfl⟩ : ∃ m, q = m + 1 := ⟨q - 1, by omega⟩
      have e1 : IntKind.i64.wrap (IntKind.i64.wrap (1000000 + IntKind.i64.wrap n) + (i : Int)) = 1000000 + n + i := by
        rw [IntWalk.i64_in n (by omega), IntWalk.i64_in (1000000 + n) (by omega), IntWalk.i64_in _ (by omega)]
      have e2 : pointA (1000000 + n + i) = -1000001 - n - (i : Int) := by rw [pointA_of (by omega) (by omega)]; omega
      rw [law10_AtomRenames_l1, if_pos (by omega), e1]
      simp only [pointP, Option.bind_some, e2]
      rw [apd_ok (by simp [toL]; omega) (by simp [toL]; omega), Option.bind_some, wrap1 (by omega), ← toL_succ]
      exact ih (i + 1) (by omega) q (by omega)
  have l1' := l1 (varsL l).length 0 (by omega) (4 * l.length + 4) (by omega)
  have l2 := stop_loop (F := law10_AtomRenames_l2 l true) (n := l.length) (e := .inr ()) (s := .inl true) (ok := fun i => ∀ x, l[i]? = some x → -1000000 ≤ x.1 ∧ -1000000 ≤ x.2) (fun q i h => by rw [law10_AtomRenames_l2, if_neg h])
    (fun q i hi => by
      have hx : l[i]? = some l[i] := List.getElem?_eq_getElem hi
      rw [law10_AtomRenames_l2, if_pos (by omega), idx_nat hx, Option.bind_some, wrap1 (by omega)]
      by_cases h1 : l[i].1 < -1000000
      · exact .inr (by rw [if_pos h1])
      · by_cases h2 : l[i].2 < -1000000
        · exact .inr (by rw [if_neg h1, if_pos h2])
        · exact .inl ⟨fun x hx' => by rw [hx] at hx'; injection hx' with e; subst e; omega, by rw [if_neg h1, if_neg h2]⟩) l.length 0 (by omega) (4 * l.length + 4) (by omega)
  unfold law10_AtomRenames
  simp only [exP, Option.bind_some, if_true, varsP_ok (show l.length ≤ 274877906944 by omega)]
  rw [show law10_AtomRenames_l1 n (varsL l) (4 * l.length + 4) [] 0 = some (toL n (varsL l).length) from l1', Option.bind_some]
  rcases l2 with ⟨hok, l2⟩ | l2
  · have l2' : law10_AtomRenames_l2 l true (4 * l.length + 4) 0 = some (.inr ()) := l2
    simp only [l2', Option.bind_some, orOn]
    have ok : ∀ p ∈ l, -1000000 ≤ p.1 ∧ -1000000 ≤ p.2 := fun p hp => by
      obtain ⟨i, hi, rfl⟩ := List.getElem_of_mem hp
      exact hok i (by omega) hi _ (List.getElem?_eq_getElem hi)
    have hto : ∀ a, -1000000 ≤ a → renA (toL n (varsL l).length) (varsL l) a = a := fun a ha => renA_no (fun y hy => by
      simp only [toL, List.mem_map, List.mem_range] at hy
      obtain ⟨i, hi, rfl⟩ := hy; omega)
    have hfro : ∀ p ∈ l, ∀ a, (a = p.1 ∨ a = p.2) → (0 ≤ a → ∃ j, j < (varsL l).length ∧ (varsL l)[j]? = some a ∧ renA (varsL l) (toL n (varsL l).length) a = -1000001 - n - (j : Int)) ∧ (a < 0 → renA (varsL l) (toL n (varsL l).length) a = a) := by
      intro p hp a ha
      refine ⟨fun h0 => ?_, fun h0 => renA_no (fun y hy => by have := (mem_varsL.1 hy).1; omega)⟩
      obtain ⟨j, hj, e⟩ := List.getElem_of_mem (mem_varsL.2 ⟨h0, p, hp, ha⟩)
      have e' : (varsL l)[j]? = some a := by rw [List.getElem?_eq_getElem hj, e]
      exact ⟨j, hj, e', renA_at e' (ris_ne (varsL_ris l) e') (toL_get hj)⟩
    have hback : ∀ p ∈ l, ∀ a, (a = p.1 ∨ a = p.2) → renA (toL n (varsL l).length) (varsL l) (renA (varsL l) (toL n (varsL l).length) a) = a := by
      intro p hp a ha
      by_cases h0 : 0 ≤ a
      · obtain ⟨j, hj, e, er⟩ := (hfro p hp a ha).1 h0
        rw [er]
        refine renA_at (toL_get hj) (fun i hi e2 => ?_) e
        rw [toL_get (by omega)] at e2
        injection e2 with e2; omega
      · rw [(hfro p hp a ha).2 (by omega)]
        have := ok p hp
        exact hto a (by rcases ha with h | h <;> omega)
    have R1 : renameP l (varsL l) (toL n (varsL l).length) = some (l.map fun p => (renA (varsL l) (toL n (varsL l).length) p.1, renA (varsL l) (toL n (varsL l).length) p.2)) := if_pos ⟨by omega, by omega⟩
    have hV : varsL (l.map fun p => (renA (varsL l) (toL n (varsL l).length) p.1, renA (varsL l) (toL n (varsL l).length) p.2)) = [] := by
      refine List.eq_nil_iff_forall_not_mem.2 fun a ha => ?_
      obtain ⟨h0, q, hq, hx⟩ := mem_varsL.1 ha
      obtain ⟨p, hp, rfl⟩ := List.mem_map.1 hq
      have key : ∀ b, (b = p.1 ∨ b = p.2) → renA (varsL l) (toL n (varsL l).length) b < 0 := fun b hb => by
        by_cases hb0 : 0 ≤ b
        · obtain ⟨j, hj, e, er⟩ := (hfro p hp b hb).1 hb0
          rw [er]; omega
        · rw [(hfro p hp b hb).2 (by omega)]; omega
      rcases hx with h | h
      · have := key p.1 (.inl rfl); simp only at h; omega
      · have := key p.2 (.inr rfl); simp only at h; omega
    have hlm : (l.map fun p => (renA (varsL l) (toL n (varsL l).length) p.1, renA (varsL l) (toL n (varsL l).length) p.2)).length = l.length := by simp
    have htl : (toL n (varsL l).length).length = (varsL l).length := by simp [toL]
    have R2 : renameP (l.map fun p => (renA (varsL l) (toL n (varsL l).length) p.1, renA (varsL l) (toL n (varsL l).length) p.2)) (toL n (varsL l).length) (varsL l) = some l := by
      unfold renameP
      rw [if_pos ⟨by omega, by omega⟩, List.map_map]
      congr 1
      refine (List.map_congr_left fun p hp => ?_).trans (List.map_id l)
      simp only [Function.comp, id]
      rw [hback p hp p.1 (.inl rfl), hback p hp p.2 (.inr rfl)]
    have R3 : renameP l (toL n (varsL l).length) (varsL l) = some l := by
      unfold renameP
      rw [if_pos ⟨by omega, by omega⟩]
      congr 1
      refine (List.map_congr_left fun p hp => ?_).trans (List.map_id l)
      simp only [id]
      rw [hto _ (ok p hp).1, hto _ (ok p hp).2]
    have R4 : renameP l ([] : List Int) ([] : List Int) = some l := by
      unfold renameP
      rw [if_pos ⟨by omega, by simp⟩]
      congr 1
      refine (List.map_congr_left fun p hp => ?_).trans (List.map_id l)
      simp only [id]
      rw [renA_no (fun y hy => by cases hy), renA_no (fun y hy => by cases hy)]
    simp only [R1, Option.bind_some, varsP_ok (show (l.map fun p => (renA (varsL l) (toL n (varsL l).length) p.1, renA (varsL l) (toL n (varsL l).length) p.2)).length ≤ 274877906944 by omega), hV]
    rw [if_pos (by rfl)]
    simp only [R2, R3, R4, Option.bind_some, same_eq _ _ _ (show l.length ≤ 1099511627776 by omega) (show l.length < 4 * l.length + 4 by omega), decide_true, if_true]
  · rw [show law10_AtomRenames_l2 l true (4 * l.length + 4) 0 = some (.inl true) from l2, Option.bind_some]; rfl
end Go.Ch
