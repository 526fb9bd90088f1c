/- Plain Lean: the law AtomTells. -/
import Derived.Test.YtpnkncinmoogpaaGreatDoorPlainB
import Derived.Test.YtpnkncinmoogpaaGreatDoorTlawT
set_option linter.unusedVariables false
namespace Go.Ch
open Go Go.Eng
/-! ### AtomTells -/
theorem vars_ref (l : List (Int × Int)) : (l.flatMap varsOf).foldl (fun l n => addG ltI n l) [] = varsL l := by
  obtain ⟨h1, h2⟩ := foldl_addG ltI_ok (l.flatMap varsOf) [] (by simp)
  refine ris_ext ltI_ok h1 (varsL_ris l) fun a => ?_
  rw [h2, mem_varsL, List.mem_flatMap]
  simp only [List.not_mem_nil, or_false]
  constructor
  · rintro ⟨p, hp, ha⟩
    unfold varsOf at ha
    rcases List.mem_append.1 ha with ha | ha
    · split at ha
      · rename_i h; rcases List.mem_singleton.1 ha with rfl; exact ⟨h, p, hp, .inl rfl⟩
      · cases ha
    · split at ha
      · rename_i h; rcases List.mem_singleton.1 ha with rfl; exact ⟨h, p, hp, .inr rfl⟩
      · cases ha
  · rintro ⟨h0, p, hp, rfl | rfl⟩
    · exact ⟨p, hp, List.mem_append.2 (.inl (by rw [if_pos h0]; simp))⟩
    · exact ⟨p, hp, List.mem_append.2 (.inr (by rw [if_pos h0]; simp))⟩
theorem points_ref (l : List (Int × Int)) (hr : inR l) : (l.flatMap pointsOf).foldl (fun l n => addG ltI n l) [] = pointsL l := by
  obtain ⟨h1, h2⟩ := foldl_addG ltI_ok (l.flatMap pointsOf) [] (by simp)
  refine ris_ext ltI_ok h1 (pointsL_ris l) fun a => ?_
  rw [h2, mem_pointsL hr, List.mem_flatMap]
  simp only [List.not_mem_nil, or_false]
  constructor
  · rintro ⟨p, hp, ha⟩
    unfold pointsOf at ha
    rcases List.mem_append.1 ha with ha | ha
    · split at ha
      · rename_i h; rcases List.mem_singleton.1 ha with rfl; exact ⟨by omega, p, hp, .inl (by omega)⟩
      · cases ha
    · split at ha
      · rename_i h; rcases List.mem_singleton.1 ha with rfl; exact ⟨by omega, p, hp, .inr (by omega)⟩
      · cases ha
  · rintro ⟨h0, p, hp, h | h⟩
    · exact ⟨p, hp, List.mem_append.2 (.inl (by rw [if_pos (by omega)]; simp; omega))⟩
    · exact ⟨p, hp, List.mem_append.2 (.inr (by rw [if_pos (by omega)]; simp; omega))⟩
theorem foldl_normS : ∀ (l acc : List (Int × Int)), Ris ltQ acc → Ris ltQ (l.foldl normS acc) ∧ ∀ p, p ∈ l.foldl normS acc ↔ (p ∈ l ∧ p.1 ≠ p.2) ∨ p ∈ acc
  | [], acc, h => ⟨h, fun p => by simp⟩
  | x :: l, acc, h => by
    have hx : Ris ltQ (normS acc x) ∧ ∀ p, p ∈ normS acc x ↔ (p = x ∧ p.1 ≠ p.2) ∨ p ∈ acc := by
      unfold normS
      by_cases e : x.1 = x.2
      · rw [if_pos e]
        exact ⟨h, fun p => ⟨.inr, fun hp => hp.elim (fun ⟨h1, h2⟩ => absurd (by rw [h1]; exact e) h2) id⟩⟩
      · rw [if_neg e]
        refine ⟨addG_ris ltQ_ok x h, fun p => ?_⟩
        rw [mem_addG]
        exact ⟨fun hp => hp.imp (fun h1 => ⟨h1, by rw [h1]; exact e⟩) id, fun hp => hp.imp And.left id⟩
    obtain ⟨h1, h2⟩ := foldl_normS l (normS acc x) hx.1
    refine ⟨h1, fun p => ?_⟩
    rw [List.foldl_cons, h2, hx.2, List.mem_cons]
    constructor
    · rintro (⟨ha, hb⟩ | ⟨ha, hb⟩ | ha)
      · exact .inl ⟨.inr ha, hb⟩
      · exact .inl ⟨.inl ha, hb⟩
      · exact .inr ha
    · rintro (⟨ha | ha, hb⟩ | ha)
      · exact .inr (.inl ⟨ha, hb⟩)
      · exact .inl ⟨ha, hb⟩
      · exact .inr (.inr ha)
theorem norm_ref (l : List (Int × Int)) : l.foldl normS [] = normL l := by
  obtain ⟨h1, h2⟩ := foldl_normS l [] (by simp)
  exact ris_ext ltQ_ok h1 (normL_ris l) fun p => by rw [h2, mem_normL]; simp
/-! ### texts -/
theorem ref10_Point_eq (n : Int) (h0 : -9223372036854775808 ≤ n) (h1 : n ≤ 9223372036854775807) : ref10_Point n = some (pointA n) := by
  unfold ref10_Point pointA
  split
  · rfl
  · rw [notI_eq n h0 h1, IntWalk.i64_in _ (by omega)]
theorem ref10_PointOf_eq2 (a : Int) (h0 : -9223372036854775808 ≤ a) (h1 : a ≤ 9223372036854775807) : ref10_PointOf a = some (ptOf a) := by
  unfold ref10_PointOf
  rw [ptOf_eq h0 h1]
  by_cases h : a < 0
  · rw [if_neg (by omega), if_pos h, IntWalk.i64_in _ (by omega)]
  · rw [if_pos (by omega), if_neg h]
theorem itoa_size {a : Int} (h0 : 0 ≤ a) (h1 : a ≤ 9223372036854775807) : (itoaB a).size ≤ 20 := by
  obtain ⟨s, _, e, h⟩ := Name_eq 21 a h0 h1 (by omega)
  rw [e] at h; exact h
theorem text_ref (k : Nat) (names : List ByteArray) (a : Int) (hk : 20 < k) (hn : names.length ≤ 1048576) (hs : ∀ s ∈ names, s.size ≤ 1048576) (h0 : -9223372036854775808 ≤ a) (h1 : a ≤ 9223372036854775807) :
    ref10_Text k names a = some (textA names a) ∧ (textA names a).size ≤ 1048600 := by
  unfold ref10_Text textA
  by_cases h : a < 0
  · have hp : ¬ isPt a = false := by rw [isPt_iff.2 h]; simp
    have e := ptOf_eq h0 h1
    rw [if_pos h] at e
    rw [if_neg (by omega), ref10_PointOf_eq2 a h0 h1, Option.bind_some, Option.bind_some, if_neg hp]
    by_cases hj : ptOf a < (names.length : Int)
    · have hx : names[(ptOf a).toNat]? = some (names[(ptOf a).toNat]'(by omega)) := List.getElem?_eq_getElem (by omega)
      rw [if_pos hj, show idx names (ptOf a) = some (names[(ptOf a).toNat]'(by omega)) by unfold idx; rw [if_pos (by omega), hx], hx]
      exact ⟨rfl, Nat.le_trans (hs _ (List.getElem_mem (by omega))) (by decide)⟩
    · rw [if_neg hj, List.getElem?_eq_none (by omega)]
      exact ⟨rfl, by decide⟩
  · have hp : isPt a = false := by cases hb : isPt a with | false => rfl | true => exact absurd (isPt_iff.1 hb) h
    obtain ⟨s, e1, e2, e3⟩ := Name_eq k a (by omega) h1 hk
    have hz : (⟨#[39]⟩ : ByteArray).size = 1 := rfl
    rw [if_pos (by omega), e1, Option.bind_some, cat_ok (by rw [hz]; omega), Option.bind_some, if_pos hp, e2]
    exact ⟨rfl, by rw [ba_size_app, hz]; have := itoa_size (show (0 : Int) ≤ a by omega) h1; show 1 + (itoaB a).size ≤ _; omega⟩
def stT (names : List ByteArray) (b : ByteArray) (p : Int × Int) : ByteArray := if b.size = 0 then textP names p else b ++ (⟨#[44, 32]⟩ : ByteArray) ++ textP names p
theorem textP_sz (names : List ByteArray) (p : Int × Int) (h1 : (textA names p.1).size ≤ 1048600) (h2 : (textA names p.2).size ≤ 1048600) : 1 ≤ (textP names p).size ∧ (textP names p).size ≤ 2097204 := by
  unfold textP
  rw [ba_size_app, ba_size_app]
  have : (⟨#[32, 60, 61, 32]⟩ : ByteArray).size = 4 := rfl
  omega
theorem stT_join (names : List ByteArray) : ∀ (l : List (Int × Int)) (b : ByteArray), 1 ≤ b.size → (l.foldl (stT names) b).data.toList = b.data.toList ++ Lib.joinTail [44, 32] (l.map fun p => (textP names p).data.toList)
  | [], b, _ => by simp [Lib.joinTail]
  | p :: l, b, h => by
    have e : stT names b p = b ++ (⟨#[44, 32]⟩ : ByteArray) ++ textP names p := if_neg (by omega)
    rw [List.foldl_cons, stT_join names l _ (by rw [e, ba_size_app, ba_size_app]; omega), e, ba_app, ba_app]
    simp [Lib.joinTail]
theorem texts_ref (k : Nat) (names : List ByteArray) (l : List (Int × Int)) (hk : 20 < k) (hkl : l.length < k) (hl : l.length ≤ 1048576) (hn : names.length ≤ 1048576) (hs : ∀ s ∈ names, s.size ≤ 1048576) (hr : inR l) : ref10_Texts k names l = some (textsA names l) := by
  have T : ∀ a, -9223372036854775808 ≤ a → a ≤ 9223372036854775807 → ref10_Text k names a = some (textA names a) ∧ (textA names a).size ≤ 1048600 := fun a h0 h1 => text_ref k names a hk hn hs h0 h1
  have loop := fold_loop (F := ref10_Texts_l1 k names l) (l := l) (st := stT names) (fin := fun b => b) (fun i b => b.size ≤ i * 2097206 ∧ (i = 0 → b.size = 0) ∧ (0 < i → 1 ≤ b.size)) (fun q b i h => by rw [ref10_Texts_l1, if_neg h])
    (fun q b i x hi hx hI => by
      have hrx := hr x (List.mem_of_getElem? hx)
      obtain ⟨t1, s1⟩ := T x.1 hrx.1.1 hrx.1.2
      obtain ⟨t2, s2⟩ := T x.2 hrx.2.1 hrx.2.2
      have hP := textP_sz names x s1 s2
      have z2 : (⟨#[44, 32]⟩ : ByteArray).size = 2 := rfl
      have z4 : (⟨#[32, 60, 61, 32]⟩ : ByteArray).size = 4 := rfl
      have hi2 : i * 2097206 ≤ 1048576 * 2097206 := Nat.mul_le_mul_right _ (by omega)
      rw [ref10_Texts_l1, if_pos (by omega), wrap1 (by omega), idx_nat hx, Option.bind_some, t1, t2]
      simp only [Option.bind_some]
      by_cases h0 : i = 0
      · have hb := hI.2.1 h0
        have hb' : b = ByteArray.empty := ba_ext (List.eq_nil_of_length_eq_zero hb)
        have e : stT names b x = textP names x := if_pos hb
        rw [if_neg (by omega), cat_ok (by omega), Option.bind_some, cat_ok (by rw [ba_size_app]; omega), Option.bind_some, cat_ok (by rw [ba_size_app, ba_size_app]; omega), Option.bind_some, e]
        refine ⟨?_, by omega, by omega, fun _ => hP.1⟩
        congr 1
        refine ba_ext ?_
        unfold textP
        rw [ba_app, ba_app, ba_app, ba_app, ba_app, hb']
        rfl
      · have hb := hI.2.2 (by omega)
        have e : stT names b x = b ++ (⟨#[44, 32]⟩ : ByteArray) ++ textP names x := if_neg (by omega)
        have es : (stT names b x).size = b.size + 2 + (textP names x).size := by rw [e, ba_size_app, ba_size_app, z2]
        rw [if_pos (by omega), cat_ok (by rw [z2]; omega), Option.bind_some, t1, Option.bind_some, cat_ok (by rw [ba_size_app, z2]; omega), Option.bind_some, cat_ok (by rw [ba_size_app, ba_size_app, z2, z4]; omega), Option.bind_some, t2, Option.bind_some, cat_ok (by rw [ba_size_app, ba_size_app, ba_size_app, z2, z4]; omega), Option.bind_some]
        refine ⟨?_, by rw [es, Nat.succ_mul]; omega, by omega, fun _ => by rw [es]; omega⟩
        congr 1
        refine ba_ext ?_
        rw [e]
        unfold textP
        simp only [ba_app, List.append_assoc]) l.length 0 (⟨#[]⟩ : ByteArray) (by omega) ⟨by decide, fun _ => rfl, fun h => by omega⟩ k hkl
  rw [List.drop_zero] at loop
  unfold ref10_Texts
  rw [show (0 : Int) = ((0 : Nat) : Int) from rfl, loop, Option.bind_some]
  unfold textsA
  cases l with
  | nil => rw [List.map_nil, if_pos rfl, List.foldl_nil, beq_self_eq_true, if_pos rfl]
  | cons p r =>
    have hrx := hr p List.mem_cons_self
    have hP := textP_sz names p (T p.1 hrx.1.1 hrx.1.2).2 (T p.2 hrx.2.1 hrx.2.2).2
    have e0 : stT names (⟨#[]⟩ : ByteArray) p = textP names p := if_pos rfl
    have hj := stT_join names r (textP names p) hP.1
    have hres : (p :: r).foldl (stT names) (⟨#[]⟩ : ByteArray) = joinB ((p :: r).map (textP names)) ⟨#[44, 32]⟩ := by
      refine ba_ext ?_
      rw [List.foldl_cons, e0, hj]
      unfold joinB
      simp only [List.map_cons, List.map_map]
      rw [Lib.join_cons]
      rfl
    have hne : ¬ ((((p :: r).foldl (stT names) (⟨#[]⟩ : ByteArray)).toList == (⟨#[]⟩ : ByteArray).toList) = true) := by
      rw [ba_toList, ba_toList, beq_iff_eq, List.foldl_cons, e0, hj]
      intro h
      have h2 := congrArg List.length h
      rw [List.length_append] at h2
      have h3 : (textP names p).data.toList.length = (textP names p).size := rfl
      have h4 : (⟨#[]⟩ : ByteArray).data.toList.length = 0 := rfl
      omega
    rw [if_neg hne, if_neg (show ¬ List.map (textP names) (p :: r) = [] by simp), ← hres]
theorem AtomTells_plain (l : List (Int × Int)) (fr to : List Int) (a n : Int) (names : List ByteArray) (hl : l.length ≤ 1048576) (hf : fr.length ≤ 1048576) (ht : to.length ≤ 1048576) (hn : names.length ≤ 1048576) (hr : inR l)
    (ba : -9223372036854775808 ≤ a ∧ a ≤ 9223372036854775807) (bn : -9223372036854775808 ≤ n ∧ n ≤ 9223372036854775807) (hs : ∀ s ∈ names, s.size ≤ 1048576) : ∃ k, law10_AtomTells k l fr to a n names = some true := by
  refine ⟨8388608, ?_⟩
  have hlen := gat_len2 l
  have hnl := normL_len l
  have same1 : ∀ (xs : List Int), xs.length ≤ 2097152 → law10_AtomTells_l1 xs xs 8388608 0 = some (.inr ()) := fun xs hx => by
    have := go_loop (F := law10_AtomTells_l1 xs xs) (n := xs.length) (e := .inr ()) (fun q i h => by rw [law10_AtomTells_l1, if_neg h])
      (fun q i hi => by
        have hx : xs[i]? = some xs[i] := List.getElem?_eq_getElem hi
        rw [law10_AtomTells_l1, if_pos (by omega), idx_nat hx, Option.bind_some, Option.bind_some, if_pos rfl, wrap1 (by omega)]) xs.length 0 (by omega) 8388608 (by omega)
    exact this
  have same2 : ∀ (xs : List Int), xs.length ≤ 2097152 → law10_AtomTells_l2 xs xs 8388608 0 = some (.inr ()) := fun xs hx => by
    have := go_loop (F := law10_AtomTells_l2 xs xs) (n := xs.length) (e := .inr ()) (fun q i h => by rw [law10_AtomTells_l2, if_neg h])
      (fun q i hi => by
        have hx : xs[i]? = some xs[i] := List.getElem?_eq_getElem hi
        rw [law10_AtomTells_l2, if_pos (by omega), idx_nat hx, Option.bind_some, Option.bind_some, if_pos rfl, wrap1 (by omega)]) xs.length 0 (by omega) 8388608 (by omega)
    exact this
  have e1 := refPairs_eq 8388608 l (by omega) (by omega)
  have e2 := refAtoms_eq 8388608 (varsL l) (by omega) (by omega)
  have e3 := ref10_Vars_eq 8388608 l (by omega) (by omega)
  rw [vars_ref] at e3
  have e4 := ref10_Points_eq 8388608 l (by omega) (by omega) (fun p hp => ⟨(hr p hp).1.1, (hr p hp).2.1⟩)
  rw [points_ref l hr] at e4
  have e5 := ref10_Norm_eq 8388608 l (by omega) (by omega)
  rw [norm_ref] at e5
  have e6 := ref10_Shift_eq 8388608 l n (by omega) (by omega)
  have e7 := refAtoms_eq 8388608 fr (by omega) (by omega)
  have e8 := refAtoms_eq 8388608 to (by omega) (by omega)
  have e9 := ref10_Rename_eq 8388608 l fr to (by omega) (by omega) (by omega) (by omega)
  have d1 : shiftP l n = some (l.map fun p => (shiftS n p.1, shiftS n p.2)) := if_pos (by omega)
  have d2 : renameP l fr to = some (l.map fun p => (renS fr to p.1, renS fr to p.2)) := if_pos ⟨by omega, by omega⟩
  have d3 : textP1 names a = some (textA names a) := if_pos ⟨hn, hs, ba.1, ba.2⟩
  have d4 : textsP1 names l = some (textsA names l) := if_pos ⟨hn, hs, hl, hr⟩
  have s1 := samePairs_eq 8388608 (normL l) (normL l) (by omega) (by omega)
  have s2 := samePairs_eq 8388608 (l.map fun p => (shiftS n p.1, shiftS n p.2)) (l.map fun p => (shiftS n p.1, shiftS n p.2)) (by rw [List.length_map]; omega) (by rw [List.length_map]; omega)
  have s3 := samePairs_eq 8388608 (l.map fun p => (renS fr to p.1, renS fr to p.2)) (l.map fun p => (renS fr to p.1, renS fr to p.2)) (by rw [List.length_map]; omega) (by rw [List.length_map]; omega)
  rw [decide_eq_true rfl] at s1 s2 s3
  unfold law10_AtomTells
  simp only [exP, Option.bind_some, if_true, e1, varsP_ok (show l.length ≤ 274877906944 by omega), e2, e3, pointsP_ok (show l.length ≤ 274877906944 by omega), e4, same1 (varsL l) (by omega), same2 (pointsL l) (by omega), orOn, normP_ok (show l.length ≤ 274877906944 by omega), e5, s1, d1, e6, s2, d2, e7, e8, e9, s3,
    pointP, ref10_Point_eq n bn.1 bn.2, pointOfP, ref10_PointOf_eq2 a ba.1 ba.2, isPointP, isPt, d3, (text_ref 8388608 names a (by omega) hn hs ba.1 ba.2).1, beq_self_eq_true, d4, texts_ref 8388608 names l (by omega) (by omega) hl hn hs hr]
end Go.Ch
