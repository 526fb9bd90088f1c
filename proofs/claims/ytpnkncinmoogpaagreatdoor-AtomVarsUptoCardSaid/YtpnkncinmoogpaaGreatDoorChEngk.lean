/- THE ENGINE, part 11: contracts of the sort's make. -/
import Derived.Test.YtpnkncinmoogpaaGreatDoorChEngj
import Derived.Shelf.SlSortCmp.WholeK
import Derived.Shelf.SortG.Plain
set_option linter.unusedVariables false
namespace Go.Eng
open Go Go.RowKit Go.Sort Go.Proofs Go.Lib

theorem ext_grow {w w' : World} {M M' : Mem} (h : Ext [] w M w' M' True) : ∃ q os', w' = Go.Sort.grow (w.drewN q) os' := by
  refine ⟨w'.drawn - w.drawn, w'.heap.extract w.heap.size w'.heap.size, ?_⟩
  have hh : w'.heap = w.heap ++ w'.heap.extract w.heap.size w'.heap.size := by
    apply Array.ext_getElem?
    intro k
    have hs := h.size
    by_cases hk : k < w.heap.size
    · rw [h.keep k hk (by simp), Array.getElem?_append_left hk]
    · rw [Array.getElem?_append_right (by omega)]
      by_cases hk2 : k < w'.heap.size
      · rw [Array.getElem?_extract, if_pos (by omega), show w.heap.size + (k - w.heap.size) = k by omega]
      · rw [Array.getElem?_eq_none (by omega), Array.getElem?_extract, if_neg (by omega)]
  obtain ⟨hp, tp, dr, os, out⟩ := w'
  have h1 := h.os; have h2 := h.tape; have h3 := h.output; have h4 := h.drawn trivial
  simp only at h1 h2 h3 h4 hh
  simp only [Go.Sort.grow, World.drewN, World.mk.injEq]
  exact ⟨hh, h2, by omega, h1, h3⟩
theorem grow_ext {w : World} {M : Mem} (hM : Sat M w) (k : Nat) (os : Array Obj) {D : Prop} : Ext [] w M (Go.Sort.grow (w.drewN k) os) M D := by
  have hk : ∀ j, j < w.heap.size → (Go.Sort.grow (w.drewN k) os).heap[j]? = w.heap[j]? := fun j hj => by
    show (w.heap ++ os)[j]? = _
    rw [Array.getElem?_append_left hj]
  refine ⟨rfl, rfl, rfl, ?_, fun j hj _ => hk j hj, fun _ _ h => h, fun a v ha => ?_, fun _ _ _ => rfl, fun _ => Nat.le_add_right _ _⟩
  · show w.heap.size ≤ (w.heap ++ os).size
    simp
  · exact (World.cell?_of_block (hk a.block (hM.block ha))).trans (hM a v ha)
theorem below_ext {w w' : World} {M : Mem} (hM : Sat M w) (h : Go.RowKit.Below w.heap.size w w') : Ext [] w M w' M := by
  refine ⟨h.os, h.tape, h.output, h.size, fun j hj _ => h.block j hj, fun _ _ h => h, fun a v ha => ?_, fun _ _ _ => rfl, fun d => d.elim⟩
  exact (World.cell?_of_block (h.block a.block (hM.block ha))).trans (hM a v ha)
theorem sat_none (w : World) : Sat (fun _ => none) w := fun _ _ h => by cases h
/-- A contract as the sort's library asks it. -/
theorem Ct.lays {P : Program} {g : Nat} {args : List Value} {w : World} {M : Mem} {v : Value} (h : Ct P g args [] w M (fun u _ => u = v) True) : Calls P g args.toArray w fun e w' => e = .returned v ∧ ∃ q os', w' = Go.Sort.grow (w.drewN q) os' :=
  Calls.mono h fun e w' ⟨u, M', h1, h2, h3⟩ => ⟨by rw [h1, h3], ext_grow h2⟩

theorem get_bang (F : Array Value) (j : Nat) (h : j < F.size) : F[j]? = some F[j]! := by rw [Array.getElem?_eq_getElem h, getElem!_pos F j h]
theorem flatK_list {α : Type} [Inhabited α] {enc : α → List Value} {k : Nat} (he : ∀ x, (enc x).length = k) (d : Array α) (i : Nat) (hi : i < d.size * k) : (flatK enc k d)[i]? = (d.toList.flatMap enc)[i]? := by
  have hk : 0 < k := by
    rcases Nat.eq_zero_or_pos k with h | h
    · rw [h] at hi; omega
    · exact h
  have hq : i / k < d.size := Nat.div_lt_of_lt_mul (by rw [Nat.mul_comm]; exact hi)
  have hm := Nat.mod_lt i hk
  have hx : d.toList[i / k]? = some d[i / k]! := by simp [hq]
  have hj : (enc d[i / k]!)[i % k]? = some (enc d[i / k]!)[i % k]! := by
    rw [List.getElem?_eq_getElem (by rw [he]; exact hm)]
    simp [he, hm]
  have := flatMap_get he hx (i % k) _ hj
  rw [Nat.mul_comm, Nat.div_add_mod] at this
  rw [this]
  have h2 : i < (flatK enc k d).size := by rw [size_flatK]; exact hi
  rw [get_bang _ i h2, get_flatK enc k d i hi]
theorem flatK_size {α : Type} [Inhabited α] (enc : α → List Value) (k : Nat) (d : Array α) : (flatK enc k d).size = d.size * k := size_flatK enc k d

theorem holdsK_of {α : Type} [Inhabited α] {enc : α → List Value} {k : Nat} (he : ∀ x, (enc x).length = k) {w : World} {b t : Nat} (xs : List α) (tail : List Value) (h : w.heap[b]? = some (.cells (FL enc xs tail).toArray t (0, 0))) : HoldsK enc k w b 0 xs.toArray := by
  intro j hj
  have hj' : j < xs.toArray.size * k := by rw [flatK_size] at hj; exact hj
  have e := flatK_list he xs.toArray j hj'
  have h2 := get_bang _ j hj
  constructor
  · rw [Nat.zero_add, cell_row h]
    have : (FL enc xs tail)[j]? = (xs.flatMap enc)[j]? := by
      unfold FL
      rw [List.getElem?_append_left (by rw [flatMap_len he]; simpa using hj')]
    rw [this]
    exact e.symm.trans h2
  · simp [World.frozen?, h]

/-- What the sort leaves. -/
theorem sortWorldK_ext {α : Type} [Inhabited α] {enc : α → List Value} {k : Nat} (he : ∀ x, (enc x).length = k) {w : World} {M : Mem} (hM : Sat M w) {b t : Nat} {xs ys : List α} {tail : List Value} (h : w.heap[b]? = some (.cells (FL enc xs tail).toArray t (0, 0)))
    (hn : ∀ a : Addr, a.block = b → M a = none) (hl : ys.length = xs.length) (n : Nat) (os : Array Obj) :
    Ext [b] w M (sortWorldK enc k w b 0 n ys.toArray os) M ∧ (sortWorldK enc k w b 0 n ys.toArray os).heap[b]? = some (.cells (FL enc ys tail).toArray t (0, 0)) := by
  have hb : b < w.heap.size := (Array.getElem?_eq_some_iff.1 h).1
  have hold : ∀ j, j < w.heap.size → (sortWorldK enc k w b 0 n ys.toArray os).heap[j]? = (w.heap.modify b (onCells (putCells id 0 (flatK enc k ys.toArray))))[j]? := fun j hj => by
    show ((w.heap.modify b (onCells (putCells id 0 (flatK enc k ys.toArray)))) ++ os)[j]? = _
    rw [Array.getElem?_append_left (by simpa using hj)]
  have hne : ∀ j, j < w.heap.size → j ≠ b → (sortWorldK enc k w b 0 n ys.toArray os).heap[j]? = w.heap[j]? := fun j hj hjb => by
    rw [hold j hj, Array.getElem?_modify, if_neg (Ne.symm hjb)]
  constructor
  · refine ⟨rfl, rfl, rfl, ?_, fun j hj hjb => hne j hj (by simpa using hjb), fun _ _ h => h, fun a v ha => ?_, fun _ _ _ => rfl, fun _ => Nat.le_add_right _ _⟩
    · show w.heap.size ≤ ((w.heap.modify b (onCells (putCells id 0 (flatK enc k ys.toArray)))) ++ os).size
      simp
    · have hab : a.block ≠ b := fun e => by rw [hn a e] at ha; cases ha
      exact (World.cell?_of_block (hne a.block (hM.block ha) hab)).trans (hM a v ha)
  · rw [hold b hb, Array.getElem?_modify, if_pos rfl, h]
    simp only [Option.map_some, onCells, Option.some.injEq, Obj.cells.injEq, and_true]
    apply Array.ext_getElem?
    intro i
    simp only [putCells, Array.getElem?_mapIdx, List.getElem?_toArray]
    by_cases hi : i < ys.length * k
    · have h1 : (FL enc ys tail)[i]? = (ys.flatMap enc)[i]? := by unfold FL; rw [List.getElem?_append_left (by rw [flatMap_len he]; exact hi)]
      have h2 : (FL enc xs tail)[i]? = (xs.flatMap enc)[i]? := by unfold FL; rw [List.getElem?_append_left (by rw [flatMap_len he, ← hl]; exact hi)]
      have e := flatK_list he ys.toArray i (by simpa using hi)
      have hsz : i < (flatK enc k ys.toArray).size := by rw [flatK_size]; simpa using hi
      have h3 := e.symm.trans (get_bang _ i hsz)
      have h3 : (ys.flatMap enc)[i]? = some (flatK enc k ys.toArray)[i]! := h3
      have hx : i < (xs.flatMap enc).length := by rw [flatMap_len he, ← hl]; exact hi
      rw [h1, h2, List.getElem?_eq_getElem hx, h3]
      simp only [Option.map_some, Nat.sub_zero, Nat.zero_add, id]
      rw [if_pos ⟨Nat.zero_le _, hsz⟩]
    · have h1 : (FL enc ys tail)[i]? = tail[i - ys.length * k]? := by unfold FL; rw [List.getElem?_append_right (by rw [flatMap_len he]; omega), flatMap_len he]
      have h2 : (FL enc xs tail)[i]? = tail[i - ys.length * k]? := by unfold FL; rw [List.getElem?_append_right (by rw [flatMap_len he, ← hl]; omega), flatMap_len he, hl]
      rw [h1, h2]
      have hsz : ¬ i < 0 + (flatK enc k ys.toArray).size := by rw [flatK_size]; simpa using hi
      cases tail[i - ys.length * k]? with
      | none => rfl
      | some v => simp only [Option.map_some]; rw [if_neg (fun hc => hsz hc.2)]

theorem permIn_perm {α : Type} [Inhabited α] {xs : List α} {d' : Array α} (h : PermIn 0 xs.toArray.size xs.toArray d') : d'.toList.Perm xs ∧ d'.size = xs.length := by
  obtain ⟨h1, _, h3⟩ := h
  have hs : d'.size = xs.length := by simpa using h1
  refine ⟨?_, hs⟩
  have e1 : d'.extract 0 xs.toArray.size = d' := by rw [← h1]; simp
  have e2 : xs.toArray.extract 0 xs.toArray.size = xs.toArray := by simp
  rw [e1, e2] at h3
  simpa using h3
end Go.Eng
