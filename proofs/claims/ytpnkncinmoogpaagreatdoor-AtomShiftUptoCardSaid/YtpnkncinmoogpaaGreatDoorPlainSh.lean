/- Plain Lean: the law AtomShift. -/
import Derived.Test.YtpnkncinmoogpaaGreatDoorPlainB
import Derived.Test.YtpnkncinmoogpaaGreatDoorTlawS
set_option linter.unusedVariables false
namespace Go.Ch
open Go Go.Eng
/-! ### AtomShift -/
def smallB (p : Int × Int) : Bool := decide (p.1 < 1099511627776 ∧ p.2 < 1099511627776)
theorem foldl_filter {α : Type} (p : α → Bool) : ∀ (l acc : List α), l.foldl (fun b x => if p x = true then b ++ [x] else b) acc = acc ++ l.filter p
  | [], acc => by simp
  | x :: l, acc => by
    rw [List.foldl_cons, foldl_filter p l]
    by_cases h : p x = true
    · simp [h]
    · simp [h]
def inS (l : List (Int × Int)) : Prop := ∀ p ∈ l, (-9223372036854775808 ≤ p.1 ∧ p.1 < 1099511627776) ∧ (-9223372036854775808 ≤ p.2 ∧ p.2 < 1099511627776)
theorem shiftA_neg {n a : Int} (h : a < 0) : shiftA n a = a := by unfold shiftA; rw [if_pos h]
theorem shiftA_up {n a : Int} (h : 0 ≤ a) (h1 : a < 1099511627776) (hn : 0 ≤ n ∧ n ≤ 65535) : shiftA n a = a + n := by
  unfold shiftA; rw [if_neg (by omega), IntWalk.i64_in _ (by omega), if_neg (by omega)]
theorem shiftA_back {n a : Int} (h1 : a < 1099511627776) (hn : 0 ≤ n ∧ n ≤ 65535) : shiftA (0 - n) (shiftA n a) = a := by
  by_cases h : a < 0
  · rw [shiftA_neg h, shiftA_neg h]
  · rw [shiftA_up (by omega) h1 hn]; unfold shiftA; rw [if_neg (by omega), IntWalk.i64_in _ (by omega), if_neg (by omega)]; omega
theorem shiftA_lt {n a b : Int} (ha : a < 1099511627776) (hb : b < 1099511627776) (hn : 0 ≤ n ∧ n ≤ 65535) : shiftA n a < shiftA n b ↔ a < b := by
  by_cases h1 : a < 0 <;> by_cases h2 : b < 0
  · rw [shiftA_neg h1, shiftA_neg h2]
  · rw [shiftA_neg h1, shiftA_up (by omega) hb hn]; omega
  · rw [shiftA_neg h2, shiftA_up (by omega) ha hn]; omega
  · rw [shiftA_up (by omega) ha hn, shiftA_up (by omega) hb hn]; omega
def shP (n : Int) (p : Int × Int) : Int × Int := (shiftA n p.1, shiftA n p.2)
theorem shiftA_inj {n a b : Int} (ha : a < 1099511627776) (hb : b < 1099511627776) (hn : 0 ≤ n ∧ n ≤ 65535) (h : shiftA n a = shiftA n b) : a = b := by
  have h1 := shiftA_lt ha hb hn
  have h2 := shiftA_lt hb ha hn
  omega
theorem norm_shift {l : List (Int × Int)} {n : Int} (hs : inS l) (hn : 0 ≤ n ∧ n ≤ 65535) : normL (l.map (shP n)) = (normL l).map (shP n) := by
  refine ris_ext ltQ_ok (normL_ris _) ?_ fun p => ?_
  · refine List.pairwise_map.2 ((normL_ris l).imp_of_mem fun {a b} ha hb h => ?_)
    have h1 := hs a (mem_normL.1 ha).1
    have h2 := hs b (mem_normL.1 hb).1
    simp only [ltQ, decide_eq_true_eq] at h
    refine decide_eq_true ?_
    have e1 := shiftA_lt h1.1.2 h2.1.2 hn
    have e2 := shiftA_lt h1.2.2 h2.2.2 hn
    rcases h with h | ⟨h, h'⟩
    · exact .inl (e1.2 h)
    · exact .inr ⟨by simp only [shP, h], e2.2 h'⟩
  · rw [mem_normL, List.mem_map, List.mem_map]
    constructor
    · rintro ⟨⟨q, hq, rfl⟩, hne⟩
      exact ⟨q, mem_normL.2 ⟨hq, fun e => hne (by simp only [shP, e])⟩, rfl⟩
    · rintro ⟨q, hq, rfl⟩
      obtain ⟨hq, hne⟩ := mem_normL.1 hq
      exact ⟨⟨q, hq, rfl⟩, fun e => hne (shiftA_inj (hs q hq).1.2 (hs q hq).2.2 hn e)⟩
theorem shiftP_ok {l : List (Int × Int)} {n : Int} (h : l.length ≤ 274877906944) : shiftP l n = some (l.map (shP n)) := if_pos h
theorem AtomShift_plain (l : List (Int × Int)) (n : Int) (hl : l.length ≤ 1048576) (hr : inR l) (hn : 0 ≤ n ∧ n ≤ 65535) : ∃ k, law10_AtomShift k l n = some true := by
  refine ⟨4 * l.length + 4, ?_⟩
  have hw : IntKind.i64.wrap n = n := IntWalk.i64_in _ (by omega)
  have hw2 : IntKind.i64.wrap (0 - n) = 0 - n := IntWalk.i64_in _ (by omega)
  have l1 : law10_AtomShift_l1 l (4 * l.length + 4) ([] : List (Int × Int)) 0 = some (l.filter smallB) := by
    have := fold_loop (F := law10_AtomShift_l1 l) (l := l) (st := fun b x => if smallB x = true then b ++ [x] else b) (fin := fun b => b) (fun i b => b.length ≤ i) (fun q b i h => by rw [law10_AtomShift_l1, if_neg h])
      (fun q b i x hi hx hI => by
        rw [law10_AtomShift_l1, if_pos (by omega), idx_nat hx, Option.bind_some, wrap1 (by omega)]
        by_cases h1 : x.1 < 1099511627776
        · by_cases h2 : x.2 < 1099511627776
          · have hsm : smallB x = true := by simp [smallB, h1, h2]
            rw [if_pos h1, if_pos h2, apd_ok (by simp; omega) (by simp; omega), Option.bind_some, if_pos hsm]
            exact ⟨rfl, by simp; omega⟩
          · have hsm : ¬ smallB x = true := by simp [smallB, h2]
            rw [if_pos h1, if_neg h2, if_neg hsm]; exact ⟨rfl, by omega⟩
        · have hsm : ¬ smallB x = true := by simp [smallB, h1]
          rw [if_neg h1, if_neg hsm]; exact ⟨rfl, by omega⟩) l.length 0 [] (by omega) (by simp) (4 * l.length + 4) (by omega)
    rw [List.drop_zero, foldl_filter, List.nil_append] at this
    exact this
  generalize hsm : l.filter smallB = sm at l1
  have hsl : sm.length ≤ l.length := by rw [← hsm]; exact List.length_filter_le _ _
  have hs : inS sm := fun p hp => by
    rw [← hsm] at hp
    obtain ⟨h1, h2⟩ := List.mem_filter.1 hp
    have := hr p h1
    simp only [smallB, decide_eq_true_eq] at h2
    exact ⟨⟨this.1.1, h2.1⟩, this.2.1, h2.2⟩
  have l2 : law10_AtomShift_l2 n sm (sm.map (shP n)) (4 * l.length + 4) 0 = some (.inr ()) := by
    have := go_loop (F := law10_AtomShift_l2 n sm (sm.map (shP n))) (n := sm.length) (e := .inr ()) (fun q i h => by rw [law10_AtomShift_l2, if_neg (by rw [List.length_map]; exact h)])
      (fun q i hi => by
        have hx : sm[i]? = some sm[i] := List.getElem?_eq_getElem hi
        have hy : (sm.map (shP n))[i]? = some (shP n sm[i]) := by rw [List.getElem?_map, hx]; rfl
        have hb := hs _ (List.getElem_mem hi)
        rw [law10_AtomShift_l2, if_pos (by rw [List.length_map]; omega), if_pos (by omega), idx_nat hx, Option.bind_some, wrap1 (by omega), idx_nat hy]
        simp only [isPointP, Option.bind_some, hw]
        by_cases h0 : sm[i].1 < 0
        · have hp : isPt sm[i].1 = true := isPt_iff.2 h0
          rw [if_pos hp, if_pos (by simp only [shP, shiftA_neg h0]), if_pos hp]
        · have hp : ¬ isPt sm[i].1 = true := fun h => h0 (isPt_iff.1 h)
          rw [if_neg hp, if_neg hp, if_pos (by simp only [shP, shiftA_up (Int.not_lt.1 h0) hb.1.2 hn]; rw [IntWalk.i64_in _ (by omega)])]) sm.length 0 (by omega) (4 * l.length + 4) (by omega)
    exact this
  have hback : (sm.map (shP n)).map (shP (0 - n)) = sm := by
    rw [List.map_map]
    refine (List.map_congr_left fun p hp => ?_).trans (List.map_id sm)
    simp only [Function.comp, shP, id, shiftA_back (hs p hp).1.2 hn, shiftA_back (hs p hp).2.2 hn]
  have hml : (sm.map (shP n)).length = sm.length := List.length_map _
  have hnl := normL_len sm
  unfold law10_AtomShift
  simp only [exP, Option.bind_some, if_true, l1, hw, hw2, shiftP_ok (n := n) (show sm.length ≤ 274877906944 by omega), l2, orOn, shiftP_ok (n := 0 - n) (show (sm.map (shP n)).length ≤ 274877906944 by omega), hback,
    same_eq _ _ _ (show sm.length ≤ 1099511627776 by omega) (show sm.length < 4 * l.length + 4 by omega), decide_true, normP_ok (show (sm.map (shP n)).length ≤ 274877906944 by omega), normP_ok (show sm.length ≤ 274877906944 by omega),
    shiftP_ok (n := n) (show (normL sm).length ≤ 274877906944 by omega), norm_shift hs hn, same_eq _ ((normL sm).map (shP n)) _ (show ((normL sm).map (shP n)).length ≤ 1099511627776 by rw [List.length_map]; omega) (show ((normL sm).map (shP n)).length < 4 * l.length + 4 by rw [List.length_map]; omega)]

end Go.Ch
