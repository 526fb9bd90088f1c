import Derived.Test.YtpnkncinmoogpaaGreatDoorChEngk
import Derived.Test.YtpnkncinmoogpaaGreatDoorTShelfP
import Derived.Test.YtpnkncinmoogpaaGreatDoorChAtomP
import Derived.Shelf.SortG.SortNone
import Derived.Shelf.SlSortCmp.NoneTotal
import Derived.Test.YtpnkncinmoogpaaGreatDoorTatomA
namespace Go.Ch
open Go.Proofs Go.Shelf Go.RowKit Go.Lib Go.Sort Go.Eng
theorem cmpP_lt (x y : Int × Int) : ltOf cmpP x y = decide (x.1 < y.1 ∨ (x.1 = y.1 ∧ x.2 < y.2)) := by
  unfold ltOf cmpP orI cmpI
  by_cases h1 : x.1 < y.1
  · simp [h1]
  · by_cases h2 : y.1 < x.1
    · have : x.1 ≠ y.1 := by omega
      simp [h1, h2, this]
    · have h3 : x.1 = y.1 := by omega
      by_cases h4 : x.2 < y.2
      · simp [h3, h4]
      · by_cases h5 : y.2 < x.2 <;> simp [h3, h4, h5]
theorem cmpP_swo : SWO (ltOf cmpP) where
  irrefl x := by rw [cmpP_lt]; simp
  trans x y z h1 h2 := by rw [cmpP_lt] at *; simp only [decide_eq_true_eq] at *; omega
  ntrans x y z h1 h2 := by rw [cmpP_lt] at *; simp only [decide_eq_false_iff_not] at *; omega
theorem sortFunc_calls {M : Mem} {w : World} (hM : Sat M w) (xs : List (Int × Int)) (tail : List Value) (b cap : Nat) (hlen : xs.length ≤ 1099511627776) (hLent : Lent [.cells b (FL chP xs tail) 53] M w) :
    CtL Tryz.prog 41 [.slice (some ⟨b, 0, none⟩) xs.length cap, .func (.func 42) #[] #[]] [.cells b (FL chP xs tail) 53] w M (fun v M' Lo => v = .tuple #[] ∧ ∃ ys, List.Perm ys xs ∧ SortedIn (ltOf cmpP) 0 ys.length ys.toArray ∧ Lo = [.cells b (FL chP ys tail) 53]) := by
  have hb : w.heap[b]? = some (.cells (FL chP xs tail).toArray 53 (0, 0)) := hLent.obj _ List.mem_cons_self
  have eg : ∀ args w, (callFunc 42 args).run Tryz.prog w = .ok (.enter 42 args) w := fun a w => goes_run (by kernel_rfl) a w
  have hcon := AnyQ.slices_SortFunc Tz.sortP 2 (fun w => by kernel_rfl) (fun w => by kernel_rfl) chP (fun _ => rfl) (fun x v hv => by simp [chP] at hv; rcases hv with rfl | rfl <;> rfl) cmpP cmpP_swo 42 #[] b 0 cap xs.toArray w eg
    (fun m os dk _ x y => Ct.lays (order_calls (sat_none _) x y)) (holdsK_of (enc := chP) (k := 2) (fun _ => rfl) xs tail hb) (Array.getElem?_eq_some_iff.1 hb).1 (by simp; omega)
  refine Calls.mono (show Calls Tryz.prog 41 _ w _ from hcon) ?_
  rintro e w' ⟨rfl, d', n, os, hp, hs, rfl⟩
  obtain ⟨h1, h2⟩ := permIn_perm hp
  have hx := sortWorldK_ext (enc := chP) (k := 2) (fun _ => rfl) hM (t := 53) (xs := xs) (ys := d'.toList) hb (hLent.free _ List.mem_cons_self) (by simpa using h2) n os
  have e : d'.toList.toArray = d' := by simp
  rw [e] at hx
  refine ⟨_, M, [.cells b (FL chP d'.toList tail) 53], rfl, hx.1, ⟨fun o ho => ?_, by simp, fun o ho => ?_⟩, fun o ho => ?_, rfl, d'.toList, h1, ?_, rfl⟩
  · rcases List.mem_singleton.1 ho with rfl; exact hx.2
  · rcases List.mem_singleton.1 ho with rfl; exact hLent.free (.cells b (FL chP xs tail) 53) List.mem_cons_self
  · rcases List.mem_singleton.1 ho with rfl; exact .inr List.mem_cons_self
  · rw [e]
    have : d'.toList.length = xs.toArray.size := by simpa using h2
    rw [this]; exact hs
theorem sortInt_ext {w : World} {M : Mem} (hM : Sat M w) {b t : Nat} {xs ys : List Int} {tail : List Value} (h : w.heap[b]? = some (.cells (FL chI xs tail).toArray t (0, 0)))
    (hn : ∀ a : Addr, a.block = b → M a = none) (hl : ys.length = xs.length) (n : Nat) (os : Array Obj) :
    Ext [b] w M (grow (putRow (Value.int .i64) (Sort.ahead w n) b 0 ys.toArray) os) M ∧ (grow (putRow (Value.int .i64) (Sort.ahead w n) b 0 ys.toArray) os).heap[b]? = some (.cells (FL chI ys tail).toArray t (0, 0)) := by
  have e : putRow (Value.int .i64) (Sort.ahead w n) b 0 ys.toArray = putRowK chI 1 (Sort.ahead w n) b 0 ys.toArray := by
    unfold putRowK putRow
    congr 1
    funext c
    apply Array.ext_getElem?
    intro i
    simp only [putCells, Array.getElem?_mapIdx, size_flatK, Nat.mul_one]
    cases c[i]? with
    | none => rfl
    | some v =>
      simp only [Option.map_some]
      split
      · rename_i hi
        have := get_flatK chI 1 ys.toArray (i - 0) (by omega)
        simp only [id]
        rw [this]
        have h1 : (i - 0) % 1 = 0 := Nat.mod_one _
        have h2 : (i - 0) / 1 = i - 0 := Nat.div_one _
        rw [h1, h2]; rfl
      · rfl
  rw [e]
  exact sortWorldK_ext (enc := chI) (k := 1) (fun _ => rfl) hM h hn hl n os
theorem holdsInt_of {w : World} {b t : Nat} (xs : List Int) (tail : List Value) (h : w.heap[b]? = some (.cells (FL chI xs tail).toArray t (0, 0))) : Holds (Value.int .i64) w b 0 xs.toArray := by
  intro j hj
  have hj' : j < xs.length := by simpa using hj
  constructor
  · rw [Nat.zero_add, cell_row h]
    have := FL_get (enc := chI) (sz := 1) (fun _ => rfl) (tail := tail) (List.getElem?_eq_getElem hj') 0 _ rfl
    rw [Nat.mul_one, Nat.add_zero] at this
    rw [this]; simp [hj']
  · simp [World.frozen?, h]
def SortPost (t b : Nat) (xs : List Int) (tail : List Value) : Value → Mem → List SO → Prop := fun v M' Lo => v = .tuple #[] ∧ Lo = [.cells b (FL chI (xs.mergeSort fun x y => decide (x ≤ y)) tail) t]
theorem sort_of {g t b : Nat} {xs : List Int} {tail : List Value} {cap : Nat} {M : Mem} {w : World} (hM : Sat M w) (hLent : Lent [.cells b (FL chI xs tail) t] M w)
    (hcon : Calls Tryz.prog g #[.slice (some ⟨b, 0, none⟩) xs.length cap] w fun e w' => e = .returned (.tuple #[]) ∧ ∃ n os, w' = grow (putRow (Value.int .i64) (Sort.ahead w n) b 0 (xs.mergeSort fun x y => decide (x ≤ y)).toArray) os) :
    CtL Tryz.prog g [.slice (some ⟨b, 0, none⟩) xs.length cap] [.cells b (FL chI xs tail) t] w M (SortPost t b xs tail) := by
  have hb : w.heap[b]? = some (.cells (FL chI xs tail).toArray t (0, 0)) := hLent.obj _ List.mem_cons_self
  refine Calls.mono hcon ?_
  rintro e w' ⟨rfl, n, os, rfl⟩
  have hx := sortInt_ext hM (t := t) (xs := xs) (ys := xs.mergeSort fun x y => decide (x ≤ y)) hb (hLent.free _ List.mem_cons_self) (by simp) n os
  refine ⟨_, M, [.cells b (FL chI (xs.mergeSort fun x y => decide (x ≤ y)) tail) t], rfl, hx.1, ⟨fun o ho => ?_, by simp, fun o ho => ?_⟩, fun o ho => ?_, rfl, rfl⟩
  · rcases List.mem_singleton.1 ho with rfl; exact hx.2
  · rcases List.mem_singleton.1 ho with rfl; exact hLent.free (.cells b (FL chI xs tail) t) List.mem_cons_self
  · rcases List.mem_singleton.1 ho with rfl; exact .inr List.mem_cons_self
theorem sortA_calls {M : Mem} {w : World} (hM : Sat M w) (xs : List Int) (tail : List Value) (b cap : Nat) (hlen : xs.length ≤ 1099511627776) (hLent : Lent [.cells b (FL chI xs tail) 24] M w) :
    CtL Tryz.prog 53 [.slice (some ⟨b, 0, none⟩) xs.length cap] [.cells b (FL chI xs tail) 24] w M (SortPost 24 b xs tail) :=
  have hb : w.heap[b]? = some (.cells (FL chI xs tail).toArray 24 (0, 0)) := hLent.obj _ List.mem_cons_self
  sort_of hM hLent (AnyG.slices_Sort_int Tz.sortA b 0 cap xs w (holdsInt_of xs tail hb) (Array.getElem?_eq_some_iff.1 hb).1 (by omega))
theorem sortI_calls {M : Mem} {w : World} (hM : Sat M w) (xs : List Int) (tail : List Value) (b cap : Nat) (hlen : xs.length ≤ 1099511627776) (hLent : Lent [.cells b (FL chI xs tail) 3] M w) :
    CtL Tryz.prog 55 [.slice (some ⟨b, 0, none⟩) xs.length cap] [.cells b (FL chI xs tail) 3] w M (SortPost 3 b xs tail) :=
  have hb : w.heap[b]? = some (.cells (FL chI xs tail).toArray 3 (0, 0)) := hLent.obj _ List.mem_cons_self
  sort_of hM hLent (AnyG.slices_Sort_int Tz.sortI b 0 cap xs w (holdsInt_of xs tail hb) (Array.getElem?_eq_some_iff.1 hb).1 (by omega))
/-- A slice without a block. -/
theorem sortA_nil {M : Mem} {w : World} (hM : Sat M w) : Ct Tryz.prog 53 [.slice none 0 0] [] w M (fun v M' => v = .tuple #[]) :=
  Calls.mono (AnyG.slices_Sort_int_none Tz.sortA none 0 w) fun e w' ⟨h1, h2⟩ => ⟨_, M, h1, by rw [h2]; exact Ext.refl [] hM, rfl⟩
theorem sortI_nil {M : Mem} {w : World} (hM : Sat M w) : Ct Tryz.prog 55 [.slice none 0 0] [] w M (fun v M' => v = .tuple #[]) :=
  Calls.mono (AnyG.slices_Sort_int_none Tz.sortI none 0 w) fun e w' ⟨h1, h2⟩ => ⟨_, M, h1, by rw [h2]; exact Ext.refl [] hM, rfl⟩
def leP (x y : Int × Int) : Bool := decide (x.1 < y.1 ∨ (x.1 = y.1 ∧ x.2 ≤ y.2))
/-- Pairs in order, each once. -/
def normL (l : List (Int × Int)) : List (Int × Int) := cpt ((l.filter (fun p => !(p.1 == p.2))).mergeSort leP)
theorem normL_nil : normL [] = [] := by simp [normL, cpt]
theorem leP_anti {a b : Int × Int} (h1 : leP a b = true) (h2 : leP b a = true) : a = b := by
  simp only [leP, decide_eq_true_eq] at h1 h2
  exact Prod.ext (by omega) (by omega)
theorem leP_trans (a b c : Int × Int) (h1 : leP a b = true) (h2 : leP b c = true) : leP a c = true := by
  simp only [leP, decide_eq_true_eq] at *; omega
theorem leP_total (a b : Int × Int) : (leP a b || leP b a) = true := by
  simp only [leP, Bool.or_eq_true, decide_eq_true_eq]; omega
theorem sorted_eq {ys zs : List (Int × Int)} (hp : List.Perm ys zs) (hs : SortedIn (ltOf cmpP) 0 ys.length ys.toArray) : ys = zs.mergeSort leP := by
  refine List.Perm.eq_of_pairwise (le := fun a b => leP a b = true) (fun a b _ _ h1 h2 => leP_anti h1 h2) ?_ (List.pairwise_mergeSort leP_trans leP_total zs) (hp.trans (List.mergeSort_perm zs leP).symm)
  rw [List.pairwise_iff_getElem]
  intro i j hi hj hij
  have := hs i j (Nat.zero_le _) hij hj
  rw [cmpP_lt] at this
  simp only [List.getElem!_toArray, decide_eq_false_iff_not] at this
  rw [getElem!_pos ys j hj, getElem!_pos ys i hi] at this
  simp only [leP, decide_eq_true_eq]; omega
theorem cpt_length_le {α : Type} [DecidableEq α] : ∀ (xs : List α), (cpt xs).length ≤ xs.length
  | [] => Nat.le_refl _
  | [_] => Nat.le_refl _
  | x :: y :: r => by
    have := cpt_length_le (y :: r)
    simp only [cpt]; split <;> simp only [List.length_cons] at * <;> omega
theorem sortFunc_nil {M : Mem} {w : World} (hM : Sat M w) (c : Nat) : Ct Tryz.prog 41 [.slice none 0 c, .func (.func 42) #[] #[]] [] w M (fun v _ => v = .tuple #[]) :=
  Calls.mono (AnyF.slices_SortFunc_none Tz.sortP none c _ w) fun e w' ⟨h1, h2⟩ => ⟨_, M, h1, by rw [h2]; exact Ext.refl [] hM, rfl⟩
end Go.Ch
