/- Plain Lean: what package atom computes. -/
import Derived.Test.YtpnkncinmoogpaaGreatDoorPlainT
import Derived.Test.YtpnkncinmoogpaaGreatDoorTAdapt
set_option linter.unusedVariables false
namespace Go.Ch
open Go Go.Eng
/-! ### what package atom computes -/
theorem normL_ris (l : List (Int × Int)) : Ris ltQ (normL l) := by
  unfold normL
  refine cpt_ris ltQ_ok ?_
  refine (List.pairwise_mergeSort leP_trans leP_total _).imp fun {a b} h => ?_
  simp only [leP, decide_eq_true_eq] at h
  simp only [ltQ, decide_eq_false_iff_not]; omega
theorem mem_normL {l : List (Int × Int)} {p : Int × Int} : p ∈ normL l ↔ p ∈ l ∧ p.1 ≠ p.2 := by
  unfold normL
  rw [mem_cpt, List.mem_mergeSort, List.mem_filter]; simp
theorem normL_len (l : List (Int × Int)) : (normL l).length ≤ l.length := by
  unfold normL
  refine Nat.le_trans (cpt_length_le _) ?_
  rw [List.length_mergeSort]; exact List.length_filter_le _ _
theorem normL_ext {l m : List (Int × Int)} (h : ∀ p, p.1 ≠ p.2 → (p ∈ l ↔ p ∈ m)) : normL l = normL m :=
  ris_ext ltQ_ok (normL_ris l) (normL_ris m) fun p => by
    rw [mem_normL, mem_normL]
    exact ⟨fun ⟨h1, h2⟩ => ⟨(h p h2).1 h1, h2⟩, fun ⟨h1, h2⟩ => ⟨(h p h2).2 h1, h2⟩⟩
theorem normL_norm (l : List (Int × Int)) : normL (normL l) = normL l := normL_ext fun p hp => by rw [mem_normL]; exact ⟨fun h => h.1, fun h => ⟨h, hp⟩⟩
theorem mem_gat {fv : Int → Int} {fb : Int → Bool} {l : List (Int × Int)} {a : Int} : a ∈ gat fv fb l ↔ ∃ p ∈ l, ∃ x, (x = p.1 ∨ x = p.2) ∧ fb x = true ∧ fv x = a := by
  unfold gat
  rw [List.mem_flatMap]
  refine ⟨fun ⟨p, hp, h⟩ => ?_, fun ⟨p, hp, x, hx, hb, hv⟩ => ⟨p, hp, ?_⟩⟩
  · unfold gatA at h
    obtain ⟨x, hx, hf⟩ := List.mem_filterMap.1 h
    refine ⟨p, hp, x, by simpa using hx, ?_⟩
    by_cases hb : fb x = true
    · rw [if_pos hb] at hf; exact ⟨hb, Option.some.inj hf⟩
    · rw [if_neg hb] at hf; cases hf
  · unfold gatA
    exact List.mem_filterMap.2 ⟨x, by simpa using hx, by rw [if_pos hb, hv]⟩
theorem isPt_iff {a : Int} : isPt a = true ↔ a < 0 := by simp [isPt]
theorem mem_varsL {l : List (Int × Int)} {a : Int} : a ∈ varsL l ↔ 0 ≤ a ∧ ∃ p ∈ l, a = p.1 ∨ a = p.2 := by
  unfold varsL gatS
  rw [mem_srt, mem_gat]
  refine ⟨fun ⟨p, hp, x, hx, hb, hv⟩ => ?_, fun ⟨h0, p, hp, hx⟩ => ⟨p, hp, a, hx, ?_, rfl⟩⟩
  · simp only [id] at hv; subst hv
    refine ⟨?_, p, hp, hx⟩
    simp [isPt] at hb; omega
  · simp [isPt]; omega
theorem varsL_ris (l : List (Int × Int)) : Ris ltI (varsL l) := srt_ris _
theorem pointsL_ris (l : List (Int × Int)) : Ris ltI (pointsL l) := srt_ris _
def inR (l : List (Int × Int)) : Prop := ∀ p ∈ l, (-9223372036854775808 ≤ p.1 ∧ p.1 ≤ 9223372036854775807) ∧ (-9223372036854775808 ≤ p.2 ∧ p.2 ≤ 9223372036854775807)
theorem mem_pointsL {l : List (Int × Int)} (hr : inR l) {a : Int} : a ∈ pointsL l ↔ 0 ≤ a ∧ ∃ p ∈ l, -1 - a = p.1 ∨ -1 - a = p.2 := by
  unfold pointsL gatS
  rw [mem_srt, mem_gat]
  refine ⟨fun ⟨p, hp, x, hx, hb, hv⟩ => ?_, fun ⟨h0, p, hp, hx⟩ => ⟨p, hp, -1 - a, hx, ?_, ?_⟩⟩
  · have := isPt_iff.1 hb
    have h1 := hr p hp
    rw [ptOf_eq (by rcases hx with rfl | rfl <;> omega) (by omega), if_pos this] at hv
    exact ⟨by omega, p, hp, by rcases hx with rfl | rfl <;> omega⟩
  · rw [isPt_iff]; omega
  · have h1 := hr p hp
    rw [ptOf_eq (by rcases hx with h | h <;> omega) (by omega), if_pos (by omega)]; omega
theorem gat_len2 (l : List (Int × Int)) : (varsL l).length + (pointsL l).length ≤ 2 * l.length := by
  have h1 : (varsL l).length ≤ (gat id (fun a => !isPt a) l).length := by
    unfold varsL gatS; refine Nat.le_trans (cpt_length_le _) ?_; rw [List.length_mergeSort]; exact Nat.le_refl _
  have h2 : (pointsL l).length ≤ (gat ptOf isPt l).length := by
    unfold pointsL gatS; refine Nat.le_trans (cpt_length_le _) ?_; rw [List.length_mergeSort]; exact Nat.le_refl _
  have h3 : ∀ (m : List (Int × Int)), (gat id (fun a => !isPt a) m).length + (gat ptOf isPt m).length = 2 * m.length := by
    intro m
    induction m with
    | nil => rfl
    | cons p m ih =>
      have e1 : ∀ (fv : Int → Int) (fb : Int → Bool), gat fv fb (p :: m) = gatA fv fb [p.1, p.2] ++ gat fv fb m := fun fv fb => by simp [gat]
      rw [e1, e1, List.length_append, List.length_append, List.length_cons]
      have : (gatA id (fun a => !isPt a) [p.1, p.2]).length + (gatA ptOf isPt [p.1, p.2]).length = 2 := by
        unfold gatA
        cases h1 : isPt p.1 <;> cases h2 : isPt p.2 <;> simp [h1, h2]
      omega
  have := h3 l
  omega
theorem normP_ok {l : List (Int × Int)} (h : l.length ≤ 274877906944) : normP l = some (normL l) := if_pos h
theorem varsP_ok {l : List (Int × Int)} (h : l.length ≤ 274877906944) : varsP l = some (varsL l) := if_pos h
theorem pointsP_ok {l : List (Int × Int)} (h : l.length ≤ 274877906944) : pointsP l = some (pointsL l) := if_pos h

theorem ris_get {xs : List Int} (h : Ris ltI xs) {i : Nat} (hi : i < xs.length) (h0 : 0 < i) : (xs[i - 1]'(by omega)) < xs[i] := by
  have := List.pairwise_iff_getElem.1 h (i - 1) i (by omega) hi (by omega)
  simpa [ltI] using this
theorem wrapm {i : Nat} (h0 : 0 < i) (h : i < 4611686018427387904) : IntKind.i64.wrap ((i : Int) - 1) = ((i - 1 : Nat) : Int) := by rw [IntWalk.i64_in _ (by omega)]; omega
theorem pointA_of {a : Int} (h : 0 ≤ a) (h1 : a ≤ 9223372036854775807) : pointA a = -1 - a := by rw [pointA, if_neg (by omega), notI_eq _ (by omega) h1]
/-! ### AtomRenames -/
theorem findIdx_at {xs : List Int} {j : Nat} {a : Int} (h : xs[j]? = some a) (hne : ∀ i, i < j → xs[i]? ≠ some a) : xs.findIdx? (fun x => x == a) = some j := by
  obtain ⟨hlt, he⟩ := List.getElem?_eq_some_iff.1 h
  refine List.findIdx?_eq_some_iff_getElem.2 ⟨hlt, by simp [he], fun i hi => ?_⟩
  simp only [beq_iff_eq]
  exact fun e => hne i hi (by rw [List.getElem?_eq_getElem (by omega), e])
theorem renA_at {xs ys : List Int} {j : Nat} {a b : Int} (h : xs[j]? = some a) (hne : ∀ i, i < j → xs[i]? ≠ some a) (hy : ys[j]? = some b) : renA xs ys a = b := by
  unfold renA
  rw [findIdx_at h hne]
  simp [List.getD_eq_getElem?_getD, hy]
theorem ris_ne {xs : List Int} (h : Ris ltI xs) {j : Nat} {a : Int} (ha : xs[j]? = some a) : ∀ i, i < j → xs[i]? ≠ some a := by
  intro i hi e
  obtain ⟨hj, ej⟩ := List.getElem?_eq_some_iff.1 ha
  obtain ⟨hi', ei⟩ := List.getElem?_eq_some_iff.1 e
  have := List.pairwise_iff_getElem.1 h i j hi' hj hi
  rw [ej, ei, ltI_ok.irr] at this; cases this
/-- A loop that goes on, or stops at once. -/
theorem stop_loop {δ : Type} {F : Nat → Int → Option δ} {n : Nat} {e s : δ} {ok : Nat → Prop} (h0 : ∀ q i, ¬ i < (n : Int) → F (q + 1) i = some e)
    (h1 : ∀ q (i : Nat), i < n → (ok i ∧ F (q + 1) (i : Int) = F q ((i + 1 : Nat) : Int)) ∨ F (q + 1) (i : Int) = some s) :
    ∀ (d i : Nat), i + d = n → ∀ q, d < q → ((∀ j, i ≤ j → j < n → ok j) ∧ F q (i : Int) = some e) ∨ F q (i : Int) = some s := by
  intro d
  induction d with
  | zero =>
    intro i hi q hq
    obtain ⟨q, rfl⟩ : ∃ m, q = m + 1 := ⟨q - 1, by omega⟩
    exact .inl ⟨fun j h1 h2 => by omega, h0 q i (by omega)⟩
  | succ d ih =>
    intro i hi q hq
    obtain ⟨q, rfl⟩ : ∃ m, q = m + 1 := ⟨q - 1, by omega⟩
    rcases h1 q i (by omega) with ⟨g1, g2⟩ | g
    · rw [g2]
      rcases ih (i + 1) (by omega) q (by omega) with ⟨k1, k2⟩ | k
      · refine .inl ⟨fun j h1 h2 => ?_, k2⟩
        by_cases e : j = i
        · rw [e]; exact g1
        · exact k1 j (by omega) h2
      · exact .inr k
    · exact .inr g
end Go.Ch
