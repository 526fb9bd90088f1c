import Derived.Test.YtpnkncinmoogpaaGreatDoorChAtomP
import Derived.Test.YtpnkncinmoogpaaGreatDoorProg
set_option linter.unusedVariables false
namespace Go.Ch
open Go Go.Eng Go.Proofs
def ref07_digits_l1 : Nat → Int → ByteArray → Option (Int × ByteArray)
  | 0, _, _ => none
  | q + 1, n6, s7 => (if n6 > 9 then ((cat (bytesOf ([IntKind.u8.wrap (IntKind.u64.wrap (48 + (Int.tmod n6 10)))] : List Int)) s7)).bind fun s27 => ref07_digits_l1 q (IntKind.u64.wrap (Int.tdiv n6 10)) s27 else some (n6, s7))
def ref07_digits (k : Nat) (n1 : Int) : Option (ByteArray) := (ref07_digits_l1 k n1 (⟨#[]⟩ : ByteArray)).bind (fun ⟨n14, s15⟩ => ((cat (bytesOf ([IntKind.u8.wrap (IntKind.u64.wrap (48 + n14))] : List Int)) s15)).bind fun s39 => some s39)
theorem ref07_digits_calls (k : Nat) {M : Mem} {w : World} (hM : Sat M w) (n1 : Int) {r : ByteArray} (h : ref07_digits k n1 = some r) : Ct Tryz.prog 63 [.int .u64 n1] [] w M (fun v _ => v = .string r) := by
  unfold ref07_digits at h
  refine enter (n := 23) Tryz.func63 rfl rfl _ (by kernel_rfl) hM ?_
  refine g_seq ?_
  refine g_region ?_
  refine g_exec 1 [0] [] [] (fun _ => ⟨[(0, .v (.int .u64 n1))], [], [], 0⟩) (fun _ => by kernel_rfl) fun _ => ?_
  refine g_end (by kernel_rfl) ?_
  refine n_then ?_
  refine g_seq ?_
  refine g_region ?_
  refine g_exec 1 [0, 3] [] [] (fun _ => ⟨[(0, .v (.int .u64 n1)), (3, .v (.string (⟨#[]⟩ : ByteArray)))], [], [], 0⟩) (fun _ => by kernel_rfl) fun _ => ?_
  refine g_end (by kernel_rfl) ?_
  refine n_then ?_
  refine g_seq ?_
  refine g_fin [0, 3] [] [] ⟨[(0, .v (.int .u64 n1)), (3, .v (.string (⟨#[]⟩ : ByteArray)))], [], [], 0⟩ (by kernel_rfl) ?_
  obtain ⟨t11, h16, h⟩ := bind_t h
  refine g_blockJ (fun M12 s => ∃ (n14 : Int) (s15 : ByteArray), s = ⟨[(0, .v (.int .u64 n14)), (3, .v (.string s15))], [], [], 0⟩ ∧ (n14, s15) = t11 ∧ (∀ a u, M a = some u → M12 a = some u)) ?_ ?_
  · refine g_while (ι := Nat) (fun q8 M4 s => ∃ (n6 : Int) (s7 : ByteArray), s = ⟨[(0, .v (.int .u64 n6)), (3, .v (.string s7))], [], [], 0⟩ ∧ ref07_digits_l1 q8 n6 s7 = some t11 ∧ (∀ a u, M a = some u → M4 a = some u)) (fun q8 => q8) k ⟨n1, (⟨#[]⟩ : ByteArray), rfl, h16, (fun _ _ h => h)⟩ ?_
    rintro q8 M4 _ ⟨n6, s7, rfl, hl10, le5⟩
    obtain _ | q8 := q8
    · cases hl10
    · rw [ref07_digits_l1] at hl10
      refine g_seq ?_
      refine g_seq ?_
      refine g_region ?_
      refine g_exec 2 [0, 3, 5] [] [] (fun _ => ⟨[(0, .v (.int .u64 n6)), (3, .v (.string s7)), (5, .v (.bool (decide (n6 > 9))))], [], [], 0⟩) (fun _ => by kernel_rfl) fun _ => ?_
      refine g_end (by kernel_rfl) ?_
      refine n_then ?_
      refine g_cond (decide (n6 > 9)) (by kernel_rfl) (fun hc18 => ?_) (fun hc18 => ?_)
      · replace hl10 := if_t (of_decide_eq_true hc18) hl10
        refine g_skip ?_
        refine n_then ?_
        refine g_block ?_
        refine g_seq ?_
        refine g_region ?_
        refine g_exec 4 [0, 3, 9] [] [] (fun _ => ⟨[(0, .v (.int .u64 n6)), (3, .v (.string s7)), (9, .v (.int .u8 (IntKind.u8.wrap (IntKind.u64.wrap (48 + (Int.tmod n6 10))))))], [], [], 0⟩) (fun _ => by kernel_rfl) fun _ => ?_
        refine g_step (used := true) (fun f20 => ⟨[(10, .v (.slice (some ⟨f20, 0, none⟩) 1 1)), (0, .v (.int .u64 n6)), (3, .v (.string s7)), (9, .v (.int .u8 (IntKind.u8.wrap (IntKind.u64.wrap (48 + (Int.tmod n6 10))))))], [(0, .cells f20 [.int .u8 (IntKind.u8.wrap (IntKind.u64.wrap (48 + (Int.tmod n6 10))))] 5)], [], 1⟩) rfl (by kernel_rfl) (fun _ => by kernel_rfl) (fun f20 => ?_)
        refine g_pubL 0 (b := f20) (t := 5) (cs := [.int .u8 (IntKind.u8.wrap (IntKind.u64.wrap (48 + (Int.tmod n6 10))))]) (by rfl) ?_
        intro M21 le22 hp23
        have hA24 : SlW (fl (chK .u8)) 1 M21 (some ⟨f20, 0, none⟩) ([IntKind.u8.wrap (IntKind.u64.wrap (48 + (Int.tmod n6 10)))] : List Int) 1 := SlW.lit (Cells.cons (rep := (fl (chK .u8)) M21) (sz := 1) (x := IntKind.u8.wrap (IntKind.u64.wrap (48 + (Int.tmod n6 10)))) (c := [.int .u8 (IntKind.u8.wrap (IntKind.u64.wrap (48 + (Int.tmod n6 10))))]) (rfl) rfl (Cells.nil')) rfl hp23
        refine g_yld (y_bstr (dst := some 11) (A := (some ⟨f20, 0, none⟩)) (cap := 1) (xs := ([IntKind.u8.wrap (IntKind.u64.wrap (48 + (Int.tmod n6 10)))] : List Int)) (by kernel_rfl) hA24) ?_
        refine g_exec 1 [0, 3, 11, 12] [] [] (fun _ => ⟨[(0, .v (.int .u64 n6)), (3, .v (.string s7)), (11, .v (.string (bytesOf ([IntKind.u8.wrap (IntKind.u64.wrap (48 + (Int.tmod n6 10)))] : List Int)))), (12, .v (.string s7))], [], [], 0⟩) (fun _ => by kernel_rfl) fun _ => ?_
        obtain ⟨s27, h28, hl10⟩ := bind_t hl10
        refine g_yld (y_catA (dst := some 13) (a := (bytesOf ([IntKind.u8.wrap (IntKind.u64.wrap (48 + (Int.tmod n6 10)))] : List Int))) (b := s7) (by kernel_rfl) h28) ?_
        refine g_exec 1 [0, 3] [] [] (fun _ => ⟨[(0, .v (.int .u64 n6)), (3, .v (.string s27))], [], [], 0⟩) (fun _ => by kernel_rfl) fun _ => ?_
        refine g_end (by kernel_rfl) ?_
        refine n_then ?_
        refine g_region ?_
        refine g_exec 3 [0, 3] [] [] (fun _ => ⟨[(0, .v (.int .u64 (IntKind.u64.wrap (Int.tdiv n6 10)))), (3, .v (.string s27))], [], [], 0⟩) (fun _ => by kernel_rfl) fun _ => ?_
        refine g_end (by kernel_rfl) ?_
        refine n_block ?_
        refine n_then ?_
        refine g_fin [0, 3] [] [] ⟨[(0, .v (.int .u64 (IntKind.u64.wrap (Int.tdiv n6 10)))), (3, .v (.string s27))], [], [], 0⟩ (by kernel_rfl) ?_
        exact g_again q8 ⟨(IntKind.u64.wrap (Int.tdiv n6 10)), s27, rfl, hl10, (fun _ _ h => le22 _ _ (le5 _ _ h))⟩ (Nat.lt_succ_self _)
      · replace hl10 := if_f (of_decide_eq_false hc18) hl10
        refine g_exit ?_
        refine n_then_exit ?_
        refine n_then_exit ?_
        refine n_block_exit ?_
        refine g_fin [0, 3] [] [] ⟨[(0, .v (.int .u64 n6)), (3, .v (.string s7))], [], [], 0⟩ (by kernel_rfl) ?_
        exact n_join ⟨n6, s7, rfl, some_inj hl10, le5⟩
  · rintro M12 _ ⟨n14, s15, rfl, ht9, le13⟩
    subst ht9
    refine n_then ?_
    refine g_seq ?_
    refine g_region ?_
    refine g_exec 3 [3, 18] [] [] (fun _ => ⟨[(3, .v (.string s15)), (18, .v (.int .u8 (IntKind.u8.wrap (IntKind.u64.wrap (48 + n14)))))], [], [], 0⟩) (fun _ => by kernel_rfl) fun _ => ?_
    refine g_step (used := true) (fun f32 => ⟨[(19, .v (.slice (some ⟨f32, 0, none⟩) 1 1)), (3, .v (.string s15)), (18, .v (.int .u8 (IntKind.u8.wrap (IntKind.u64.wrap (48 + n14)))))], [(0, .cells f32 [.int .u8 (IntKind.u8.wrap (IntKind.u64.wrap (48 + n14)))] 5)], [], 1⟩) rfl (by kernel_rfl) (fun _ => by kernel_rfl) (fun f32 => ?_)
    refine g_pubL 0 (b := f32) (t := 5) (cs := [.int .u8 (IntKind.u8.wrap (IntKind.u64.wrap (48 + n14)))]) (by rfl) ?_
    intro M33 le34 hp35
    have hA36 : SlW (fl (chK .u8)) 1 M33 (some ⟨f32, 0, none⟩) ([IntKind.u8.wrap (IntKind.u64.wrap (48 + n14))] : List Int) 1 := SlW.lit (Cells.cons (rep := (fl (chK .u8)) M33) (sz := 1) (x := IntKind.u8.wrap (IntKind.u64.wrap (48 + n14))) (c := [.int .u8 (IntKind.u8.wrap (IntKind.u64.wrap (48 + n14)))]) (rfl) rfl (Cells.nil')) rfl hp35
    refine g_yld (y_bstr (dst := some 20) (A := (some ⟨f32, 0, none⟩)) (cap := 1) (xs := ([IntKind.u8.wrap (IntKind.u64.wrap (48 + n14))] : List Int)) (by kernel_rfl) hA36) ?_
    refine g_exec 1 [20, 21] [] [] (fun _ => ⟨[(20, .v (.string (bytesOf ([IntKind.u8.wrap (IntKind.u64.wrap (48 + n14))] : List Int)))), (21, .v (.string s15))], [], [], 0⟩) (fun _ => by kernel_rfl) fun _ => ?_
    obtain ⟨s39, h40, h⟩ := bind_t h
    refine g_yld (y_catA (dst := some 22) (a := (bytesOf ([IntKind.u8.wrap (IntKind.u64.wrap (48 + n14))] : List Int))) (b := s15) (by kernel_rfl) h40) ?_
    refine g_exec 1 [2] [] [] (fun _ => ⟨[(2, .v (.string s39))], [], [], 0⟩) (fun _ => by kernel_rfl) fun _ => ?_
    refine g_end (by kernel_rfl) ?_
    refine n_then ?_
    refine g_ret ?_
    obtain rfl := some_inj h
    exact n_post (.string s39) (by kernel_rfl) rfl
def ref07_Name (k : Nat) (n1 : Int) : Option (ByteArray) := (if n1 < 0 then ((ref07_digits k (IntKind.u64.wrap ((IntKind.u64.wrap (IntKind.i64.wrap (0 - (IntKind.i64.wrap (n1 + 1))))) + 1)))).bind fun r7 => ((cat (⟨#[45]⟩ : ByteArray) r7)).bind fun s12 => some s12 else ((ref07_digits k (IntKind.u64.wrap n1))).bind fun r16 => some r16)
theorem ref07_Name_calls (k : Nat) {M : Mem} {w : World} (hM : Sat M w) (n1 : Int) {r : ByteArray} (h : ref07_Name k n1 = some r) : Ct Tryz.prog 51 [.int .i64 n1] [] w M (fun v _ => v = .string r) := by
  unfold ref07_Name at h
  refine enter (n := 17) Tryz.func51 rfl rfl _ (by kernel_rfl) hM ?_
  refine g_seq ?_
  refine g_region ?_
  refine g_exec 1 [0] [] [] (fun _ => ⟨[(0, .v (.int .i64 n1))], [], [], 0⟩) (fun _ => by kernel_rfl) fun _ => ?_
  refine g_end (by kernel_rfl) ?_
  refine n_then ?_
  refine g_seq ?_
  refine g_seq ?_
  refine g_region ?_
  refine g_exec 2 [0, 5] [] [] (fun _ => ⟨[(0, .v (.int .i64 n1)), (5, .v (.bool (decide (n1 < 0))))], [], [], 0⟩) (fun _ => by kernel_rfl) fun _ => ?_
  refine g_end (by kernel_rfl) ?_
  refine n_then ?_
  refine g_cond (decide (n1 < 0)) (by kernel_rfl) (fun hc4 => ?_) (fun hc4 => ?_)
  · replace h := if_t (of_decide_eq_true hc4) h
    refine g_seq ?_
    refine g_region ?_
    refine g_exec 6 [3] [] [] (fun _ => ⟨[(3, .v (.int .u64 (IntKind.u64.wrap ((IntKind.u64.wrap (IntKind.i64.wrap (0 - (IntKind.i64.wrap (n1 + 1))))) + 1))))], [], [], 0⟩) (fun _ => by kernel_rfl) fun _ => ?_
    refine g_end (by kernel_rfl) ?_
    refine n_then ?_
    refine g_seq ?_
    refine g_region ?_
    refine g_exec 1 [11] [] [] (fun _ => ⟨[(11, .v (.int .u64 (IntKind.u64.wrap ((IntKind.u64.wrap (IntKind.i64.wrap (0 - (IntKind.i64.wrap (n1 + 1))))) + 1))))], [], [], 0⟩) (fun _ => by kernel_rfl) fun _ => ?_
    obtain ⟨r7, h8, h⟩ := bind_t h
    refine g_call (dst := some 12) (g := 63) (args := [.int .u64 (IntKind.u64.wrap ((IntKind.u64.wrap (IntKind.i64.wrap (0 - (IntKind.i64.wrap (n1 + 1))))) + 1))]) (by kernel_rfl) (by kernel_rfl) (fun v _ => v = .string r7) (by intro w hst; exact ref07_digits_calls k hst.sat (IntKind.u64.wrap ((IntKind.u64.wrap (IntKind.i64.wrap (0 - (IntKind.i64.wrap (n1 + 1))))) + 1)) h8) ?_
    rintro _ M9 le10 rfl
    obtain ⟨s12, h13, h⟩ := bind_t h
    refine g_yld (y_catA (dst := some 13) (a := (⟨#[45]⟩ : ByteArray)) (b := r7) (by kernel_rfl) h13) ?_
    refine g_exec 1 [2] [] [] (fun _ => ⟨[(2, .v (.string s12))], [], [], 0⟩) (fun _ => by kernel_rfl) fun _ => ?_
    refine g_end (by kernel_rfl) ?_
    refine n_then ?_
    refine g_ret ?_
    refine n_then_ret ?_
    obtain rfl := some_inj h
    exact n_post (.string s12) (by kernel_rfl) rfl
  · replace h := if_f (of_decide_eq_false hc4) h
    refine g_skip ?_
    refine n_then ?_
    refine g_seq ?_
    refine g_region ?_
    refine g_exec 2 [15] [] [] (fun _ => ⟨[(15, .v (.int .u64 (IntKind.u64.wrap n1)))], [], [], 0⟩) (fun _ => by kernel_rfl) fun _ => ?_
    obtain ⟨r16, h17, h⟩ := bind_t h
    refine g_call (dst := some 16) (g := 63) (args := [.int .u64 (IntKind.u64.wrap n1)]) (by kernel_rfl) (by kernel_rfl) (fun v _ => v = .string r16) (by intro w hst; exact ref07_digits_calls k hst.sat (IntKind.u64.wrap n1) h17) ?_
    rintro _ M18 le19 rfl
    refine g_exec 1 [2] [] [] (fun _ => ⟨[(2, .v (.string r16))], [], [], 0⟩) (fun _ => by kernel_rfl) fun _ => ?_
    refine g_end (by kernel_rfl) ?_
    refine n_then ?_
    refine g_ret ?_
    obtain rfl := some_inj h
    exact n_post (.string r16) (by kernel_rfl) rfl
def ref10_Point (p1 : Int) : Option (Int) := (if p1 < 0 then some 0 else some (IntKind.i64.wrap ((-1) - p1)))
theorem ref10_Point_calls {M : Mem} {w : World} (hM : Sat M w) (p1 : Int) {r : Int} (h : ref10_Point p1 = some r) : Ct Tryz.prog 24 [.int .i64 p1] [] w M (fun v _ => v = .int .i64 r) := by
  unfold ref10_Point at h
  refine enter (n := 7) Tryz.func24 rfl rfl _ (by kernel_rfl) hM ?_
  refine g_seq ?_
  refine g_region ?_
  refine g_exec 1 [0] [] [] (fun _ => ⟨[(0, .v (.int .i64 p1))], [], [], 0⟩) (fun _ => by kernel_rfl) fun _ => ?_
  refine g_end (by kernel_rfl) ?_
  refine n_then ?_
  refine g_seq ?_
  refine g_seq ?_
  refine g_region ?_
  refine g_exec 2 [0, 4] [] [] (fun _ => ⟨[(0, .v (.int .i64 p1)), (4, .v (.bool (decide (p1 < 0))))], [], [], 0⟩) (fun _ => by kernel_rfl) fun _ => ?_
  refine g_end (by kernel_rfl) ?_
  refine n_then ?_
  refine g_cond (decide (p1 < 0)) (by kernel_rfl) (fun hc4 => ?_) (fun hc4 => ?_)
  · replace h := if_t (of_decide_eq_true hc4) h
    refine g_seq ?_
    refine g_region ?_
    refine g_exec 1 [2] [] [] (fun _ => ⟨[(2, .v (.int .i64 0))], [], [], 0⟩) (fun _ => by kernel_rfl) fun _ => ?_
    refine g_end (by kernel_rfl) ?_
    refine n_then ?_
    refine g_ret ?_
    refine n_then_ret ?_
    obtain rfl := some_inj h
    exact n_post (.int .i64 0) (by kernel_rfl) rfl
  · replace h := if_f (of_decide_eq_false hc4) h
    refine g_skip ?_
    refine n_then ?_
    refine g_seq ?_
    refine g_region ?_
    refine g_exec 3 [2] [] [] (fun _ => ⟨[(2, .v (.int .i64 (IntKind.i64.wrap ((-1) - p1))))], [], [], 0⟩) (fun _ => by kernel_rfl) fun _ => ?_
    refine g_end (by kernel_rfl) ?_
    refine n_then ?_
    refine g_ret ?_
    obtain rfl := some_inj h
    exact n_post (.int .i64 (IntKind.i64.wrap ((-1) - p1))) (by kernel_rfl) rfl
def ref10_PointOf (a1 : Int) : Option (Int) := (if a1 ≥ 0 then some (-1) else some (IntKind.i64.wrap ((-1) - a1)))
theorem ref10_PointOf_calls {M : Mem} {w : World} (hM : Sat M w) (a1 : Int) {r : Int} (h : ref10_PointOf a1 = some r) : Ct Tryz.prog 26 [.int .i64 a1] [] w M (fun v _ => v = .int .i64 r) := by
  unfold ref10_PointOf at h
  refine enter (n := 7) Tryz.func26 rfl rfl _ (by kernel_rfl) hM ?_
  refine g_seq ?_
  refine g_region ?_
  refine g_exec 1 [0] [] [] (fun _ => ⟨[(0, .v (.int .i64 a1))], [], [], 0⟩) (fun _ => by kernel_rfl) fun _ => ?_
  refine g_end (by kernel_rfl) ?_
  refine n_then ?_
  refine g_seq ?_
  refine g_seq ?_
  refine g_region ?_
  refine g_exec 2 [0, 4] [] [] (fun _ => ⟨[(0, .v (.int .i64 a1)), (4, .v (.bool (decide (a1 ≥ 0))))], [], [], 0⟩) (fun _ => by kernel_rfl) fun _ => ?_
  refine g_end (by kernel_rfl) ?_
  refine n_then ?_
  refine g_cond (decide (a1 ≥ 0)) (by kernel_rfl) (fun hc4 => ?_) (fun hc4 => ?_)
  · replace h := if_t (of_decide_eq_true hc4) h
    refine g_seq ?_
    refine g_region ?_
    refine g_exec 1 [2] [] [] (fun _ => ⟨[(2, .v (.int .i64 (-1)))], [], [], 0⟩) (fun _ => by kernel_rfl) fun _ => ?_
    refine g_end (by kernel_rfl) ?_
    refine n_then ?_
    refine g_ret ?_
    refine n_then_ret ?_
    obtain rfl := some_inj h
    exact n_post (.int .i64 (-1)) (by kernel_rfl) rfl
  · replace h := if_f (of_decide_eq_false hc4) h
    refine g_skip ?_
    refine n_then ?_
    refine g_seq ?_
    refine g_region ?_
    refine g_exec 3 [2] [] [] (fun _ => ⟨[(2, .v (.int .i64 (IntKind.i64.wrap ((-1) - a1))))], [], [], 0⟩) (fun _ => by kernel_rfl) fun _ => ?_
    refine g_end (by kernel_rfl) ?_
    refine n_then ?_
    refine g_ret ?_
    obtain rfl := some_inj h
    exact n_post (.int .i64 (IntKind.i64.wrap ((-1) - a1))) (by kernel_rfl) rfl
def ref10_shift (a1 : Int) (by2 : Int) : Option (Int) := (if a1 < 0 then some a1 else some (if IntKind.i64.wrap (a1 + by2) < 0 then 0 else IntKind.i64.wrap (a1 + by2)))
theorem ref10_shift_calls {M : Mem} {w : World} (hM : Sat M w) (a1 : Int) (by2 : Int) {r : Int} (h : ref10_shift a1 by2 = some r) : Ct Tryz.prog 46 [.int .i64 a1, .int .i64 by2] [] w M (fun v _ => v = .int .i64 r) := by
  unfold ref10_shift at h
  refine enter (n := 12) Tryz.func46 rfl rfl _ (by kernel_rfl) hM ?_
  refine g_seq ?_
  refine g_region ?_
  refine g_exec 1 [0, 1] [] [] (fun _ => ⟨[(0, .v (.int .i64 a1)), (1, .v (.int .i64 by2))], [], [], 0⟩) (fun _ => by kernel_rfl) fun _ => ?_
  refine g_end (by kernel_rfl) ?_
  refine n_then ?_
  refine g_seq ?_
  refine g_seq ?_
  refine g_region ?_
  refine g_exec 2 [0, 1, 6] [] [] (fun _ => ⟨[(0, .v (.int .i64 a1)), (1, .v (.int .i64 by2)), (6, .v (.bool (decide (a1 < 0))))], [], [], 0⟩) (fun _ => by kernel_rfl) fun _ => ?_
  refine g_end (by kernel_rfl) ?_
  refine n_then ?_
  refine g_cond (decide (a1 < 0)) (by kernel_rfl) (fun hc5 => ?_) (fun hc5 => ?_)
  · replace h := if_t (of_decide_eq_true hc5) h
    refine g_seq ?_
    refine g_region ?_
    refine g_exec 2 [4] [] [] (fun _ => ⟨[(4, .v (.int .i64 a1))], [], [], 0⟩) (fun _ => by kernel_rfl) fun _ => ?_
    refine g_end (by kernel_rfl) ?_
    refine n_then ?_
    refine g_ret ?_
    refine n_then_ret ?_
    obtain rfl := some_inj h
    exact n_post (.int .i64 a1) (by kernel_rfl) rfl
  · replace h := if_f (of_decide_eq_false hc5) h
    refine g_skip ?_
    refine n_then ?_
    refine g_seq ?_
    refine g_region ?_
    refine g_exec 5 [4] [] [] (fun _ => ⟨[(4, .v (.int .i64 (if IntKind.i64.wrap (a1 + by2) < 0 then 0 else IntKind.i64.wrap (a1 + by2))))], [], [], 0⟩) (fun _ => by kernel_rfl) fun _ => ?_
    refine g_end (by kernel_rfl) ?_
    refine n_then ?_
    refine g_ret ?_
    obtain rfl := some_inj h
    exact n_post (.int .i64 (if IntKind.i64.wrap (a1 + by2) < 0 then 0 else IntKind.i64.wrap (a1 + by2))) (by kernel_rfl) rfl
def ref10_One_l1 (a1 : Int) (from2 : List Int) (to6 : List Int) : Nat → Int → Option ((Int) ⊕ (Unit))
  | 0, _ => none
  | q + 1, i14 => (if i14 < (from2.length : Int) then ((idx from2 i14)).bind fun x25 => (if x25 = a1 then (if i14 < (to6.length : Int) then ((idx to6 i14)).bind fun x37 => some (.inl x37) else some (.inl a1)) else ref10_One_l1 a1 from2 to6 q (IntKind.i64.wrap (i14 + 1))) else some (.inr ()))
def ref10_One (k : Nat) (a1 : Int) (from2 : List Int) (to6 : List Int) : Option (Int) := (ref10_One_l1 a1 from2 to6 k 0).bind (orOn some (fun _ => some a1))
theorem ref10_One_calls (k : Nat) {M : Mem} {w : World} (hM : Sat M w) (a1 : Int) (from2 : List Int) (A3 : Option Addr) (c4 : Nat) (hA5 : SlF (fl chI) 1 M A3 from2 c4) (to6 : List Int) (A7 : Option Addr) (c8 : Nat) (hA9 : SlF (fl chI) 1 M A7 to6 c8) {r : Int} (h : ref10_One k a1 from2 to6 = some r) : Ct Tryz.prog 49 [.int .i64 a1, .slice A3 from2.length c4, .slice A7 to6.length c8] [] w M (fun v _ => v = .int .i64 r) := by
  unfold ref10_One at h
  refine enter (n := 30) Tryz.func49 rfl rfl _ (by kernel_rfl) hM ?_
  refine g_seq ?_
  refine g_region ?_
  refine g_exec 1 [0, 1, 2] [] [] (fun _ => ⟨[(0, .v (.int .i64 a1)), (1, .v (.slice A3 from2.length c4)), (2, .v (.slice A7 to6.length c8))], [], [], 0⟩) (fun _ => by kernel_rfl) fun _ => ?_
  refine g_end (by kernel_rfl) ?_
  refine n_then ?_
  refine g_seq ?_
  refine g_seq ?_
  refine g_region ?_
  refine g_exec 1 [0, 1, 2, 7] [] [] (fun _ => ⟨[(0, .v (.int .i64 a1)), (1, .v (.slice A3 from2.length c4)), (2, .v (.slice A7 to6.length c8)), (7, .v (.int .i64 0))], [], [], 0⟩) (fun _ => by kernel_rfl) fun _ => ?_
  refine g_end (by kernel_rfl) ?_
  refine n_then ?_
  refine g_fin [0, 1, 2, 7] [] [] ⟨[(0, .v (.int .i64 a1)), (1, .v (.slice A3 from2.length c4)), (2, .v (.slice A7 to6.length c8)), (7, .v (.int .i64 0))], [], [], 0⟩ (by kernel_rfl) ?_
  obtain ⟨t18, h21, h⟩ := bind_t h
  refine g_blockJ (fun M19 s => s = ⟨[(0, .v (.int .i64 a1))], [], [], 0⟩ ∧ .inr () = t18 ∧ (∀ a u, M a = some u → M19 a = some u)) ?_ ?_
  · refine g_while (ι := Nat) (fun q15 M12 s => ∃ (i14 : Int), s = ⟨[(0, .v (.int .i64 a1)), (1, .v (.slice A3 from2.length c4)), (2, .v (.slice A7 to6.length c8)), (7, .v (.int .i64 i14))], [], [], 0⟩ ∧ ref10_One_l1 a1 from2 to6 q15 i14 = some t18 ∧ (∀ a u, M a = some u → M12 a = some u)) (fun q15 => q15) k ⟨0, rfl, h21, (fun _ _ h => h)⟩ ?_
    rintro q15 M12 _ ⟨i14, rfl, hl17, le13⟩
    obtain _ | q15 := q15
    · cases hl17
    · rw [ref10_One_l1] at hl17
      refine g_seq ?_
      refine g_seq ?_
      refine g_region ?_
      refine g_exec 4 [0, 1, 2, 7, 11] [] [] (fun _ => ⟨[(0, .v (.int .i64 a1)), (1, .v (.slice A3 from2.length c4)), (2, .v (.slice A7 to6.length c8)), (7, .v (.int .i64 i14)), (11, .v (.bool (decide (i14 < (from2.length : Int)))))], [], [], 0⟩) (fun _ => by kernel_rfl) fun _ => ?_
      refine g_end (by kernel_rfl) ?_
      refine n_then ?_
      refine g_cond (decide (i14 < (from2.length : Int))) (by kernel_rfl) (fun hc23 => ?_) (fun hc23 => ?_)
      · replace hl17 := if_t (of_decide_eq_true hc23) hl17
        refine g_skip ?_
        refine n_then ?_
        refine g_seq ?_
        refine g_block ?_
        refine g_seq ?_
        refine g_region ?_
        refine g_exec 2 [0, 1, 2, 7, 14, 15] [] [] (fun _ => ⟨[(0, .v (.int .i64 a1)), (1, .v (.slice A3 from2.length c4)), (2, .v (.slice A7 to6.length c8)), (7, .v (.int .i64 i14)), (14, .v (.slice A3 from2.length c4)), (15, .v (.int .i64 i14))], [], [], 0⟩) (fun _ => by kernel_rfl) fun _ => ?_
        obtain ⟨x25, h26, hl17⟩ := bind_t hl17
        obtain ⟨b27, o28, _, hA29, rfl, hc30⟩ := SlF.at hA5 h26
        refine g_yld (y_indexA (dst := some 16) (A := A3) (len := from2.length) (kk := .i64) (ii := i14) (sz := 1) (by kernel_rfl) hA29 (xs := from2) rfl h26) ?_
        refine g_yld (y_load1 (dst := some 17) (ad := ⟨b27, o28 + (i14).toNat * 1, none⟩) (sz := 1) (by kernel_rfl) (v := .int .i64 x25) (le13 _ _ (hc30 0 _ rfl))) ?_
        refine g_exec 2 [0, 1, 2, 7, 19] [] [] (fun _ => ⟨[(0, .v (.int .i64 a1)), (1, .v (.slice A3 from2.length c4)), (2, .v (.slice A7 to6.length c8)), (7, .v (.int .i64 i14)), (19, .v (.bool (x25 == a1)))], [], [], 0⟩) (fun _ => by kernel_rfl) fun _ => ?_
        refine g_end (by kernel_rfl) ?_
        refine n_then ?_
        refine g_cond ((x25 == a1)) (by kernel_rfl) (fun hc33 => ?_) (fun hc33 => ?_)
        · replace hl17 := if_t (eq_of_beq hc33) hl17
          refine g_seq ?_
          refine g_seq ?_
          refine g_region ?_
          refine g_exec 4 [0, 2, 7, 23] [] [] (fun _ => ⟨[(0, .v (.int .i64 a1)), (2, .v (.slice A7 to6.length c8)), (7, .v (.int .i64 i14)), (23, .v (.bool (decide (i14 < (to6.length : Int)))))], [], [], 0⟩) (fun _ => by kernel_rfl) fun _ => ?_
          refine g_end (by kernel_rfl) ?_
          refine n_then ?_
          refine g_cond (decide (i14 < (to6.length : Int))) (by kernel_rfl) (fun hc35 => ?_) (fun hc35 => ?_)
          · replace hl17 := if_t (of_decide_eq_true hc35) hl17
            refine g_seq ?_
            refine g_region ?_
            refine g_exec 2 [24, 25] [] [] (fun _ => ⟨[(24, .v (.slice A7 to6.length c8)), (25, .v (.int .i64 i14))], [], [], 0⟩) (fun _ => by kernel_rfl) fun _ => ?_
            obtain ⟨x37, h38, hl17⟩ := bind_t hl17
            obtain ⟨b39, o40, _, hA41, rfl, hc42⟩ := SlF.at hA9 h38
            refine g_yld (y_indexA (dst := some 26) (A := A7) (len := to6.length) (kk := .i64) (ii := i14) (sz := 1) (by kernel_rfl) hA41 (xs := to6) rfl h38) ?_
            refine g_yld (y_load1 (dst := some 27) (ad := ⟨b39, o40 + (i14).toNat * 1, none⟩) (sz := 1) (by kernel_rfl) (v := .int .i64 x37) (le13 _ _ (hc42 0 _ rfl))) ?_
            refine g_exec 1 [6] [] [] (fun _ => ⟨[(6, .v (.int .i64 x37))], [], [], 0⟩) (fun _ => by kernel_rfl) fun _ => ?_
            refine g_end (by kernel_rfl) ?_
            refine n_then ?_
            refine g_ret ?_
            refine n_then_ret ?_
            refine n_block_ret ?_
            refine n_then_ret ?_
            refine n_then_ret ?_
            refine n_block_ret ?_
            refine n_qj ?_
            refine n_then_ret ?_
            obtain rfl := some_inj hl17
            replace h := orOn_l h
            obtain rfl := some_inj h
            exact n_post (.int .i64 x37) (by kernel_rfl) rfl
          · replace hl17 := if_f (of_decide_eq_false hc35) hl17
            refine g_skip ?_
            refine n_then ?_
            refine g_seq ?_
            refine g_region ?_
            refine g_exec 2 [6] [] [] (fun _ => ⟨[(6, .v (.int .i64 a1))], [], [], 0⟩) (fun _ => by kernel_rfl) fun _ => ?_
            refine g_end (by kernel_rfl) ?_
            refine n_then ?_
            refine g_ret ?_
            refine n_block_ret ?_
            refine n_then_ret ?_
            refine n_then_ret ?_
            refine n_block_ret ?_
            refine n_qj ?_
            refine n_then_ret ?_
            obtain rfl := some_inj hl17
            replace h := orOn_l h
            obtain rfl := some_inj h
            exact n_post (.int .i64 a1) (by kernel_rfl) rfl
        · replace hl17 := if_f (ne_of_beq_false hc33) hl17
          refine g_skip ?_
          refine n_block ?_
          refine n_then ?_
          refine g_region ?_
          refine g_exec 3 [0, 1, 2, 7] [] [] (fun _ => ⟨[(0, .v (.int .i64 a1)), (1, .v (.slice A3 from2.length c4)), (2, .v (.slice A7 to6.length c8)), (7, .v (.int .i64 (IntKind.i64.wrap (i14 + 1))))], [], [], 0⟩) (fun _ => by kernel_rfl) fun _ => ?_
          refine g_end (by kernel_rfl) ?_
          refine n_then ?_
          refine g_fin [0, 1, 2, 7] [] [] ⟨[(0, .v (.int .i64 a1)), (1, .v (.slice A3 from2.length c4)), (2, .v (.slice A7 to6.length c8)), (7, .v (.int .i64 (IntKind.i64.wrap (i14 + 1))))], [], [], 0⟩ (by kernel_rfl) ?_
          exact g_again q15 ⟨(IntKind.i64.wrap (i14 + 1)), rfl, hl17, le13⟩ (Nat.lt_succ_self _)
      · replace hl17 := if_f (of_decide_eq_false hc23) hl17
        refine g_exit ?_
        refine n_then_exit ?_
        refine n_then_exit ?_
        refine n_block_exit ?_
        refine g_fin [0] [] [] ⟨[(0, .v (.int .i64 a1))], [], [], 0⟩ (by kernel_rfl) ?_
        exact n_join ⟨rfl, some_inj hl17, le13⟩
  · rintro M19 _ ⟨rfl, ht16, le20⟩
    subst ht16
    replace h := orOn_r h
    refine n_then ?_
    refine g_seq ?_
    refine g_region ?_
    refine g_exec 2 [6] [] [] (fun _ => ⟨[(6, .v (.int .i64 a1))], [], [], 0⟩) (fun _ => by kernel_rfl) fun _ => ?_
    refine g_end (by kernel_rfl) ?_
    refine n_then ?_
    refine g_ret ?_
    obtain rfl := some_inj h
    exact n_post (.int .i64 a1) (by kernel_rfl) rfl
def ref10_Add_l1 (l1 : List Int) (n5 : Int) : Nat → Int → Option (Int)
  | 0, _ => none
  | q + 1, at10 => (if at10 < (l1.length : Int) then ((idx l1 at10)).bind fun x22 => (if x22 < n5 then ref10_Add_l1 l1 n5 q (IntKind.i64.wrap (at10 + 1)) else some at10) else some at10)
def ref10_Add (k : Nat) (l1 : List Int) (n5 : Int) : Option ((List Int)) := (ref10_Add_l1 l1 n5 k 0).bind (fun at17 => (if at17 < (l1.length : Int) then ((idx l1 at17)).bind fun x36 => (if x36 = n5 then some l1 else ((slc l1 0 at17)).bind fun s46 => ((slc l1 at17 (l1.length : Int))).bind fun s52 => ((apd 8 ([] : List Int) s46)).bind fun ys58 => ((apd 8 ys58 [n5])).bind fun ys67 => ((apd 8 ys67 s52)).bind fun ys74 => some ys74) else ((slc l1 0 at17)).bind fun s119 => ((slc l1 at17 (l1.length : Int))).bind fun s125 => ((apd 8 ([] : List Int) s119)).bind fun ys131 => ((apd 8 ys131 [n5])).bind fun ys140 => ((apd 8 ys140 s125)).bind fun ys147 => some ys147))
theorem ref10_Add_calls (k : Nat) {M : Mem} {w : World} (hM : Sat M w) (l1 : List Int) (A2 : Option Addr) (c3 : Nat) (hA4 : SlF (fl chI) 1 M A2 l1 c3) (n5 : Int) {r : (List Int)} (h : ref10_Add k l1 n5 = some r) : Ct Tryz.prog 35 [.slice A2 l1.length c3, .int .i64 n5] [] w M (fun v M' => ∃ (A1 : Option Addr) (c2 : Nat), v = .slice A1 r.length c2 ∧ SlF (fl chI) 1 M' A1 r c2) := by
  unfold ref10_Add at h
  refine enter (n := 44) Tryz.func35 rfl rfl _ (by kernel_rfl) hM ?_
  refine g_seq ?_
  refine g_region ?_
  refine g_exec 1 [0, 1] [] [] (fun _ => ⟨[(0, .v (.slice A2 l1.length c3)), (1, .v (.int .i64 n5))], [], [], 0⟩) (fun _ => by kernel_rfl) fun _ => ?_
  refine g_end (by kernel_rfl) ?_
  refine n_then ?_
  refine g_seq ?_
  refine g_region ?_
  refine g_exec 1 [0, 1, 5] [] [] (fun _ => ⟨[(0, .v (.slice A2 l1.length c3)), (1, .v (.int .i64 n5)), (5, .v (.int .i64 0))], [], [], 0⟩) (fun _ => by kernel_rfl) fun _ => ?_
  refine g_end (by kernel_rfl) ?_
  refine n_then ?_
  refine g_seq ?_
  refine g_fin [0, 1, 5] [] [] ⟨[(0, .v (.slice A2 l1.length c3)), (1, .v (.int .i64 n5)), (5, .v (.int .i64 0))], [], [], 0⟩ (by kernel_rfl) ?_
  obtain ⟨t14, h18, h⟩ := bind_t h
  refine g_blockJ (fun M15 s => ∃ (at17 : Int), s = ⟨[(0, .v (.slice A2 l1.length c3)), (1, .v (.int .i64 n5)), (5, .v (.int .i64 at17))], [], [], 0⟩ ∧ at17 = t14 ∧ (∀ a u, M a = some u → M15 a = some u)) ?_ ?_
  · refine g_while (ι := Nat) (fun q11 M8 s => ∃ (at10 : Int), s = ⟨[(0, .v (.slice A2 l1.length c3)), (1, .v (.int .i64 n5)), (5, .v (.int .i64 at10))], [], [], 0⟩ ∧ ref10_Add_l1 l1 n5 q11 at10 = some t14 ∧ (∀ a u, M a = some u → M8 a = some u)) (fun q11 => q11) k ⟨0, rfl, h18, (fun _ _ h => h)⟩ ?_
    rintro q11 M8 _ ⟨at10, rfl, hl13, le9⟩
    obtain _ | q11 := q11
    · cases hl13
    · rw [ref10_Add_l1] at hl13
      refine g_seq ?_
      refine g_seq ?_
      refine g_region ?_
      refine g_exec 5 [0, 1, 5, 10] [] [] (fun _ => ⟨[(0, .v (.slice A2 l1.length c3)), (1, .v (.int .i64 n5)), (5, .v (.int .i64 at10)), (10, .v (.bool (decide (at10 < (l1.length : Int)))))], [], [], 0⟩) (fun _ => by kernel_rfl) fun _ => ?_
      refine g_bool 10 (decide (at10 < (l1.length : Int))) (by kernel_rfl) (fun hc20 => ?_) (fun hc20 => ?_)
      · replace hl13 := if_t (of_decide_eq_true hc20) hl13
        refine g_exec 2 [0, 1, 5, 10, 11, 12] [] [] (fun _ => ⟨[(0, .v (.slice A2 l1.length c3)), (1, .v (.int .i64 n5)), (5, .v (.int .i64 at10)), (10, .v (.bool true)), (11, .v (.slice A2 l1.length c3)), (12, .v (.int .i64 at10))], [], [], 0⟩) (fun _ => by kernel_rfl) fun _ => ?_
        obtain ⟨x22, h23, hl13⟩ := bind_t hl13
        obtain ⟨b24, o25, _, hA26, rfl, hc27⟩ := SlF.at hA4 h23
        refine g_yld (y_indexA (dst := some 13) (A := A2) (len := l1.length) (kk := .i64) (ii := at10) (sz := 1) (by kernel_rfl) hA26 (xs := l1) rfl h23) ?_
        refine g_yld (y_load1 (dst := some 14) (ad := ⟨b24, o25 + (at10).toNat * 1, none⟩) (sz := 1) (by kernel_rfl) (v := .int .i64 x22) (le9 _ _ (hc27 0 _ rfl))) ?_
        refine g_exec 3 [0, 1, 5, 17] [] [] (fun _ => ⟨[(0, .v (.slice A2 l1.length c3)), (1, .v (.int .i64 n5)), (5, .v (.int .i64 at10)), (17, .v (.bool (decide (x22 < n5))))], [], [], 0⟩) (fun _ => by kernel_rfl) fun _ => ?_
        refine g_end (by kernel_rfl) ?_
        refine n_then ?_
        refine g_cond (decide (x22 < n5)) (by kernel_rfl) (fun hc30 => ?_) (fun hc30 => ?_)
        · replace hl13 := if_t (of_decide_eq_true hc30) hl13
          refine g_skip ?_
          refine n_then ?_
          refine g_block ?_
          refine g_region ?_
          refine g_exec 3 [0, 1, 5] [] [] (fun _ => ⟨[(0, .v (.slice A2 l1.length c3)), (1, .v (.int .i64 n5)), (5, .v (.int .i64 (IntKind.i64.wrap (at10 + 1))))], [], [], 0⟩) (fun _ => by kernel_rfl) fun _ => ?_
          refine g_end (by kernel_rfl) ?_
          refine n_block ?_
          refine n_then ?_
          refine g_fin [0, 1, 5] [] [] ⟨[(0, .v (.slice A2 l1.length c3)), (1, .v (.int .i64 n5)), (5, .v (.int .i64 (IntKind.i64.wrap (at10 + 1))))], [], [], 0⟩ (by kernel_rfl) ?_
          exact g_again q11 ⟨(IntKind.i64.wrap (at10 + 1)), rfl, hl13, le9⟩ (Nat.lt_succ_self _)
        · replace hl13 := if_f (of_decide_eq_false hc30) hl13
          refine g_exit ?_
          refine n_then_exit ?_
          refine n_then_exit ?_
          refine n_block_exit ?_
          refine g_fin [0, 1, 5] [] [] ⟨[(0, .v (.slice A2 l1.length c3)), (1, .v (.int .i64 n5)), (5, .v (.int .i64 at10))], [], [], 0⟩ (by kernel_rfl) ?_
          exact n_join ⟨at10, rfl, some_inj hl13, le9⟩
      · replace hl13 := if_f (of_decide_eq_false hc20) hl13
        refine g_exec 7 [0, 1, 5, 17] [] [] (fun _ => ⟨[(0, .v (.slice A2 l1.length c3)), (1, .v (.int .i64 n5)), (5, .v (.int .i64 at10)), (17, .v (.bool false))], [], [], 0⟩) (fun _ => by kernel_rfl) fun _ => ?_
        refine g_end (by kernel_rfl) ?_
        refine n_then ?_
        refine g_cond false (by kernel_rfl) (fun hc => ?_) (fun hc => ?_)
        · cases hc
        · refine g_exit ?_
          refine n_then_exit ?_
          refine n_then_exit ?_
          refine n_block_exit ?_
          refine g_fin [0, 1, 5] [] [] ⟨[(0, .v (.slice A2 l1.length c3)), (1, .v (.int .i64 n5)), (5, .v (.int .i64 at10))], [], [], 0⟩ (by kernel_rfl) ?_
          exact n_join ⟨at10, rfl, some_inj hl13, le9⟩
  · rintro M15 _ ⟨at17, rfl, ht12, le16⟩
    subst ht12
    refine n_then ?_
    refine g_seq ?_
    refine g_seq ?_
    refine g_region ?_
    refine g_exec 5 [0, 1, 5, 24] [] [] (fun _ => ⟨[(0, .v (.slice A2 l1.length c3)), (1, .v (.int .i64 n5)), (5, .v (.int .i64 at17)), (24, .v (.bool (decide (at17 < (l1.length : Int)))))], [], [], 0⟩) (fun _ => by kernel_rfl) fun _ => ?_
    refine g_bool 24 (decide (at17 < (l1.length : Int))) (by kernel_rfl) (fun hc34 => ?_) (fun hc34 => ?_)
    · replace h := if_t (of_decide_eq_true hc34) h
      refine g_exec 2 [0, 1, 5, 24, 25, 26] [] [] (fun _ => ⟨[(0, .v (.slice A2 l1.length c3)), (1, .v (.int .i64 n5)), (5, .v (.int .i64 at17)), (24, .v (.bool true)), (25, .v (.slice A2 l1.length c3)), (26, .v (.int .i64 at17))], [], [], 0⟩) (fun _ => by kernel_rfl) fun _ => ?_
      obtain ⟨x36, h37, h⟩ := bind_t h
      obtain ⟨b38, o39, _, hA40, rfl, hc41⟩ := SlF.at hA4 h37
      refine g_yld (y_indexA (dst := some 27) (A := A2) (len := l1.length) (kk := .i64) (ii := at17) (sz := 1) (by kernel_rfl) hA40 (xs := l1) rfl h37) ?_
      refine g_yld (y_load1 (dst := some 28) (ad := ⟨b38, o39 + (at17).toNat * 1, none⟩) (sz := 1) (by kernel_rfl) (v := .int .i64 x36) (le16 _ _ (hc41 0 _ rfl))) ?_
      refine g_exec 3 [0, 1, 5, 31] [] [] (fun _ => ⟨[(0, .v (.slice A2 l1.length c3)), (1, .v (.int .i64 n5)), (5, .v (.int .i64 at17)), (31, .v (.bool (x36 == n5)))], [], [], 0⟩) (fun _ => by kernel_rfl) fun _ => ?_
      refine g_end (by kernel_rfl) ?_
      refine n_then ?_
      refine g_cond ((x36 == n5)) (by kernel_rfl) (fun hc44 => ?_) (fun hc44 => ?_)
      · replace h := if_t (eq_of_beq hc44) h
        refine g_seq ?_
        refine g_region ?_
        refine g_exec 2 [4] [] [] (fun _ => ⟨[(4, .v (.slice A2 l1.length c3))], [], [], 0⟩) (fun _ => by kernel_rfl) fun _ => ?_
        refine g_end (by kernel_rfl) ?_
        refine n_then ?_
        refine g_ret ?_
        refine n_then_ret ?_
        obtain rfl := some_inj h
        exact n_post (.slice A2 l1.length c3) (by kernel_rfl) ⟨_, _, rfl, (SlF.le hA4 le16)⟩
      · replace h := if_f (ne_of_beq_false hc44) h
        refine g_skip ?_
        refine n_then ?_
        refine g_seq ?_
        refine d_begin (by kernel_rfl) [] [] 12 (by kernel_rfl) ?_
        refine dx_exec (fuel := 7) [] [0, 1, 4, 7, 8] [33, 34, 37, 40, 41] [] [] [true, true, false, false, true, false, false, true, true, false, false, false] ⟨[(33, .v (.slice A2 l1.length c3)), (34, .v (.int .i64 at17)), (37, .v (.int .i64 n5)), (40, .v (.slice A2 l1.length c3)), (41, .v (.int .i64 at17))], [], [], 0⟩ (by kernel_rfl) (fun _ _ h => h) (by kernel_rfl) (by kernel_rfl) ?_ rfl
        obtain ⟨s46, h47, h⟩ := bind_t h
        obtain ⟨A48, c49, hv50, hA51⟩ := SlF.slice hA4 h47
        refine dx_yld (fuel := 6) (i := 2) [] [true, true, true, false, true, false, false, true, true, false, false, false] (by kernel_rfl) (fun _ _ h => h) (by kernel_rfl) (y_sliceA (dst := some 35) (A := A2) (len := l1.length) (cap := c3) (sz := 1) 0 at17 (by kernel_rfl) (.inr ⟨rfl, rfl⟩) (.inl rfl) (xs := l1) rfl hA4.1 h47 hv50) (by kernel_rfl) (by kernel_rfl) ?_ rfl
        obtain ⟨s52, h53, h⟩ := bind_t h
        obtain ⟨A54, c55, hv56, hA57⟩ := SlF.slice hA4 h53
        refine dx_yld (fuel := 5) (i := 9) [] [true, true, true, false, true, false, false, true, true, true, false, false] (by kernel_rfl) (fun _ _ h => h) (by kernel_rfl) (y_sliceA (dst := some 42) (A := A2) (len := l1.length) (cap := c3) (sz := 1) at17 (l1.length : Int) (by kernel_rfl) (.inl rfl) (.inr ⟨rfl, rfl⟩) (xs := l1) rfl hA4.1 h53 hv56) (by kernel_rfl) (by kernel_rfl) ?_ rfl
        refine dx_ops2 (fuel := 4) 3 5 [true, true, true, true, true, false, false, true, true, true, false, false] [true, true, true, false, true, true, false, true, true, true, false, false] (by kernel_rfl) (by kernel_rfl) (by kernel_rfl) rfl ?_ ?_
        · refine g_newrow 0 3 1 (by rfl) ?_
          obtain ⟨ys58, h64, h⟩ := bind_t h
          refine o_appendS (dst := some 36) 0 (u := .slice none 0 0) (row := ⟨.slice none 0 0, 3, 1, 0, []⟩) (A := A48) (c := c49) (bytes := 8) (by kernel_rfl) rfl (rep := (fl chI)) (SlF.le hA51 le16) Cells.nil' rfl h64 ?_
          intro v59 cs65 hcl60 hn61
          refine dx_know [] (fun _ _ h => h) (by kernel_rfl) ?_
          refine dx_op (fuel := 3) (i := 5) [true, true, true, true, true, true, false, true, true, true, false, false] (by kernel_rfl) (by kernel_rfl) ?_ rfl
          refine o_step (used := true) (fun f66 => ⟨[(38, .v (.slice (some ⟨f66, 0, none⟩) 1 1)), (36, .v (v59)), (42, .v (.slice A54 s52.length c55)), (35, .v (.slice A48 s46.length c49)), (33, .v (.slice A2 l1.length c3)), (34, .v (.int .i64 at17)), (37, .v (.int .i64 n5)), (40, .v (.slice A2 l1.length c3)), (41, .v (.int .i64 at17))], [(0, .cells f66 [.int .i64 n5] 3)], [(0, ⟨v59, 3, 1, 0 + s46.length, [] ++ cs65⟩)], 1⟩) rfl (by kernel_rfl) (fun _ => by kernel_rfl) (fun f66 => ?_)
          refine dx_know [] (fun _ _ h => h) (by kernel_rfl) ?_
          obtain ⟨ys67, h73, h⟩ := bind_t h
          obtain ⟨hcl69, hn70, hb71, hb72⟩ := row_apd (rep := (fl chI) M15) (sz := 1) (d := [.int .i64 n5]) h73 hcl60 hn61 (Cells.cons (rep := (fl chI) M15) (sz := 1) (x := n5) (c := [.int .i64 n5]) (rfl) rfl (Cells.nil'))
          refine dx_op (fuel := 2) (i := 6) [true, true, true, true, true, true, true, true, true, true, false, false] (by kernel_rfl) (by kernel_rfl) ?_ rfl
          refine o_append (dst := some 39) 0 0 1 (u := v59) (row := ⟨v59, 3, 1, 0 + s46.length, [] ++ cs65⟩) (b := f66) (cs := [.int .i64 n5]) (bytes := 8) (by kernel_rfl) rfl rfl hb71 hb72 ?_
          intro v68
          refine dx_know [] (fun _ _ h => h) (by kernel_rfl) ?_
          obtain ⟨ys74, h80, h⟩ := bind_t h
          refine dx_op (fuel := 1) (i := 10) [true, true, true, true, true, true, true, true, true, true, true, false] (by kernel_rfl) (by kernel_rfl) ?_ rfl
          refine o_appendS (dst := some 43) 0 (u := v68) (row := ⟨v68, 3, 1, (0 + s46.length) + 1, [] ++ cs65 ++ [.int .i64 n5]⟩) (A := A54) (c := c55) (bytes := 8) (by kernel_rfl) rfl (rep := (fl chI)) (SlF.le hA57 le16) hcl69 hn70 h80 ?_
          intro v75 cs81 hcl76 hn77
          refine dx_know [] (fun _ _ h => h) (by kernel_rfl) ?_
          refine dx_exec (fuel := 0) [] [11] [4] [] [0] [true, true, true, true, true, true, true, true, true, true, true, true] ⟨[(4, .v (v75))], [], [(0, ⟨v75, 3, 1, ((0 + s46.length) + 1) + s52.length, [] ++ cs65 ++ [.int .i64 n5] ++ cs81⟩)], 0⟩ (by kernel_rfl) (fun _ _ h => h) (by kernel_rfl) (by kernel_rfl) ?_ rfl
          refine d_end (by kernel_rfl) ?_
          refine n_then ?_
          refine g_ret ?_
          refine g_pubS 0 (by rfl) hcl76 hn77 ?_
          intro M82 A83 c84 le85 hv86 hA87
          subst hv86
          obtain rfl := some_inj h
          exact n_post (.slice A83 ys74.length c84) (by kernel_rfl) ⟨_, _, rfl, hA87⟩
        · refine o_step (used := true) (fun f88 => ⟨[(38, .v (.slice (some ⟨f88, 0, none⟩) 1 1)), (42, .v (.slice A54 s52.length c55)), (35, .v (.slice A48 s46.length c49)), (33, .v (.slice A2 l1.length c3)), (34, .v (.int .i64 at17)), (37, .v (.int .i64 n5)), (40, .v (.slice A2 l1.length c3)), (41, .v (.int .i64 at17))], [(0, .cells f88 [.int .i64 n5] 3)], [], 1⟩) rfl (by kernel_rfl) (fun _ => by kernel_rfl) (fun f88 => ?_)
          refine dx_know [] (fun _ _ h => h) (by kernel_rfl) ?_
          refine g_newrow 0 3 1 (by rfl) ?_
          obtain ⟨ys89, h95, h⟩ := bind_t h
          refine dx_op (fuel := 3) (i := 3) [true, true, true, true, true, true, false, true, true, true, false, false] (by kernel_rfl) (by kernel_rfl) ?_ rfl
          refine o_appendS (dst := some 36) 0 (u := .slice none 0 0) (row := ⟨.slice none 0 0, 3, 1, 0, []⟩) (A := A48) (c := c49) (bytes := 8) (by kernel_rfl) rfl (rep := (fl chI)) (SlF.le hA51 le16) Cells.nil' rfl h95 ?_
          intro v90 cs96 hcl91 hn92
          refine dx_know [] (fun _ _ h => h) (by kernel_rfl) ?_
          obtain ⟨ys97, h103, h⟩ := bind_t h
          obtain ⟨hcl99, hn100, hb101, hb102⟩ := row_apd (rep := (fl chI) M15) (sz := 1) (d := [.int .i64 n5]) h103 hcl91 hn92 (Cells.cons (rep := (fl chI) M15) (sz := 1) (x := n5) (c := [.int .i64 n5]) (rfl) rfl (Cells.nil'))
          refine dx_op (fuel := 2) (i := 6) [true, true, true, true, true, true, true, true, true, true, false, false] (by kernel_rfl) (by kernel_rfl) ?_ rfl
          refine o_append (dst := some 39) 0 0 1 (u := v90) (row := ⟨v90, 3, 1, 0 + s46.length, [] ++ cs96⟩) (b := f88) (cs := [.int .i64 n5]) (bytes := 8) (by kernel_rfl) rfl rfl hb101 hb102 ?_
          intro v98
          refine dx_know [] (fun _ _ h => h) (by kernel_rfl) ?_
          obtain ⟨ys104, h110, h⟩ := bind_t h
          refine dx_op (fuel := 1) (i := 10) [true, true, true, true, true, true, true, true, true, true, true, false] (by kernel_rfl) (by kernel_rfl) ?_ rfl
          refine o_appendS (dst := some 43) 0 (u := v98) (row := ⟨v98, 3, 1, (0 + s46.length) + 1, [] ++ cs96 ++ [.int .i64 n5]⟩) (A := A54) (c := c55) (bytes := 8) (by kernel_rfl) rfl (rep := (fl chI)) (SlF.le hA57 le16) hcl99 hn100 h110 ?_
          intro v105 cs111 hcl106 hn107
          refine dx_know [] (fun _ _ h => h) (by kernel_rfl) ?_
          refine dx_exec (fuel := 0) [] [11] [4] [] [0] [true, true, true, true, true, true, true, true, true, true, true, true] ⟨[(4, .v (v105))], [], [(0, ⟨v105, 3, 1, ((0 + s46.length) + 1) + s52.length, [] ++ cs96 ++ [.int .i64 n5] ++ cs111⟩)], 0⟩ (by kernel_rfl) (fun _ _ h => h) (by kernel_rfl) (by kernel_rfl) ?_ rfl
          refine d_end (by kernel_rfl) ?_
          refine n_then ?_
          refine g_ret ?_
          refine g_pubS 0 (by rfl) hcl106 hn107 ?_
          intro M112 A113 c114 le115 hv116 hA117
          subst hv116
          obtain rfl := some_inj h
          exact n_post (.slice A113 ys104.length c114) (by kernel_rfl) ⟨_, _, rfl, hA117⟩
    · replace h := if_f (of_decide_eq_false hc34) h
      refine g_exec 7 [0, 1, 5, 31] [] [] (fun _ => ⟨[(0, .v (.slice A2 l1.length c3)), (1, .v (.int .i64 n5)), (5, .v (.int .i64 at17)), (31, .v (.bool false))], [], [], 0⟩) (fun _ => by kernel_rfl) fun _ => ?_
      refine g_end (by kernel_rfl) ?_
      refine n_then ?_
      refine g_cond false (by kernel_rfl) (fun hc => ?_) (fun hc => ?_)
      · cases hc
      · refine g_skip ?_
        refine n_then ?_
        refine g_seq ?_
        refine d_begin (by kernel_rfl) [] [] 12 (by kernel_rfl) ?_
        refine dx_exec (fuel := 7) [] [0, 1, 4, 7, 8] [33, 34, 37, 40, 41] [] [] [true, true, false, false, true, false, false, true, true, false, false, false] ⟨[(33, .v (.slice A2 l1.length c3)), (34, .v (.int .i64 at17)), (37, .v (.int .i64 n5)), (40, .v (.slice A2 l1.length c3)), (41, .v (.int .i64 at17))], [], [], 0⟩ (by kernel_rfl) (fun _ _ h => h) (by kernel_rfl) (by kernel_rfl) ?_ rfl
        obtain ⟨s119, h120, h⟩ := bind_t h
        obtain ⟨A121, c122, hv123, hA124⟩ := SlF.slice hA4 h120
        refine dx_yld (fuel := 6) (i := 2) [] [true, true, true, false, true, false, false, true, true, false, false, false] (by kernel_rfl) (fun _ _ h => h) (by kernel_rfl) (y_sliceA (dst := some 35) (A := A2) (len := l1.length) (cap := c3) (sz := 1) 0 at17 (by kernel_rfl) (.inr ⟨rfl, rfl⟩) (.inl rfl) (xs := l1) rfl hA4.1 h120 hv123) (by kernel_rfl) (by kernel_rfl) ?_ rfl
        obtain ⟨s125, h126, h⟩ := bind_t h
        obtain ⟨A127, c128, hv129, hA130⟩ := SlF.slice hA4 h126
        refine dx_yld (fuel := 5) (i := 9) [] [true, true, true, false, true, false, false, true, true, true, false, false] (by kernel_rfl) (fun _ _ h => h) (by kernel_rfl) (y_sliceA (dst := some 42) (A := A2) (len := l1.length) (cap := c3) (sz := 1) at17 (l1.length : Int) (by kernel_rfl) (.inl rfl) (.inr ⟨rfl, rfl⟩) (xs := l1) rfl hA4.1 h126 hv129) (by kernel_rfl) (by kernel_rfl) ?_ rfl
        refine dx_ops2 (fuel := 4) 3 5 [true, true, true, true, true, false, false, true, true, true, false, false] [true, true, true, false, true, true, false, true, true, true, false, false] (by kernel_rfl) (by kernel_rfl) (by kernel_rfl) rfl ?_ ?_
        · refine g_newrow 0 3 1 (by rfl) ?_
          obtain ⟨ys131, h137, h⟩ := bind_t h
          refine o_appendS (dst := some 36) 0 (u := .slice none 0 0) (row := ⟨.slice none 0 0, 3, 1, 0, []⟩) (A := A121) (c := c122) (bytes := 8) (by kernel_rfl) rfl (rep := (fl chI)) (SlF.le hA124 le16) Cells.nil' rfl h137 ?_
          intro v132 cs138 hcl133 hn134
          refine dx_know [] (fun _ _ h => h) (by kernel_rfl) ?_
          refine dx_op (fuel := 3) (i := 5) [true, true, true, true, true, true, false, true, true, true, false, false] (by kernel_rfl) (by kernel_rfl) ?_ rfl
          refine o_step (used := true) (fun f139 => ⟨[(38, .v (.slice (some ⟨f139, 0, none⟩) 1 1)), (36, .v (v132)), (42, .v (.slice A127 s125.length c128)), (35, .v (.slice A121 s119.length c122)), (33, .v (.slice A2 l1.length c3)), (34, .v (.int .i64 at17)), (37, .v (.int .i64 n5)), (40, .v (.slice A2 l1.length c3)), (41, .v (.int .i64 at17))], [(0, .cells f139 [.int .i64 n5] 3)], [(0, ⟨v132, 3, 1, 0 + s119.length, [] ++ cs138⟩)], 1⟩) rfl (by kernel_rfl) (fun _ => by kernel_rfl) (fun f139 => ?_)
          refine dx_know [] (fun _ _ h => h) (by kernel_rfl) ?_
          obtain ⟨ys140, h146, h⟩ := bind_t h
          obtain ⟨hcl142, hn143, hb144, hb145⟩ := row_apd (rep := (fl chI) M15) (sz := 1) (d := [.int .i64 n5]) h146 hcl133 hn134 (Cells.cons (rep := (fl chI) M15) (sz := 1) (x := n5) (c := [.int .i64 n5]) (rfl) rfl (Cells.nil'))
          refine dx_op (fuel := 2) (i := 6) [true, true, true, true, true, true, true, true, true, true, false, false] (by kernel_rfl) (by kernel_rfl) ?_ rfl
          refine o_append (dst := some 39) 0 0 1 (u := v132) (row := ⟨v132, 3, 1, 0 + s119.length, [] ++ cs138⟩) (b := f139) (cs := [.int .i64 n5]) (bytes := 8) (by kernel_rfl) rfl rfl hb144 hb145 ?_
          intro v141
          refine dx_know [] (fun _ _ h => h) (by kernel_rfl) ?_
          obtain ⟨ys147, h153, h⟩ := bind_t h
          refine dx_op (fuel := 1) (i := 10) [true, true, true, true, true, true, true, true, true, true, true, false] (by kernel_rfl) (by kernel_rfl) ?_ rfl
          refine o_appendS (dst := some 43) 0 (u := v141) (row := ⟨v141, 3, 1, (0 + s119.length) + 1, [] ++ cs138 ++ [.int .i64 n5]⟩) (A := A127) (c := c128) (bytes := 8) (by kernel_rfl) rfl (rep := (fl chI)) (SlF.le hA130 le16) hcl142 hn143 h153 ?_
          intro v148 cs154 hcl149 hn150
          refine dx_know [] (fun _ _ h => h) (by kernel_rfl) ?_
          refine dx_exec (fuel := 0) [] [11] [4] [] [0] [true, true, true, true, true, true, true, true, true, true, true, true] ⟨[(4, .v (v148))], [], [(0, ⟨v148, 3, 1, ((0 + s119.length) + 1) + s125.length, [] ++ cs138 ++ [.int .i64 n5] ++ cs154⟩)], 0⟩ (by kernel_rfl) (fun _ _ h => h) (by kernel_rfl) (by kernel_rfl) ?_ rfl
          refine d_end (by kernel_rfl) ?_
          refine n_then ?_
          refine g_ret ?_
          refine g_pubS 0 (by rfl) hcl149 hn150 ?_
          intro M155 A156 c157 le158 hv159 hA160
          subst hv159
          obtain rfl := some_inj h
          exact n_post (.slice A156 ys147.length c157) (by kernel_rfl) ⟨_, _, rfl, hA160⟩
        · refine o_step (used := true) (fun f161 => ⟨[(38, .v (.slice (some ⟨f161, 0, none⟩) 1 1)), (42, .v (.slice A127 s125.length c128)), (35, .v (.slice A121 s119.length c122)), (33, .v (.slice A2 l1.length c3)), (34, .v (.int .i64 at17)), (37, .v (.int .i64 n5)), (40, .v (.slice A2 l1.length c3)), (41, .v (.int .i64 at17))], [(0, .cells f161 [.int .i64 n5] 3)], [], 1⟩) rfl (by kernel_rfl) (fun _ => by kernel_rfl) (fun f161 => ?_)
          refine dx_know [] (fun _ _ h => h) (by kernel_rfl) ?_
          refine g_newrow 0 3 1 (by rfl) ?_
          obtain ⟨ys162, h168, h⟩ := bind_t h
          refine dx_op (fuel := 3) (i := 3) [true, true, true, true, true, true, false, true, true, true, false, false] (by kernel_rfl) (by kernel_rfl) ?_ rfl
          refine o_appendS (dst := some 36) 0 (u := .slice none 0 0) (row := ⟨.slice none 0 0, 3, 1, 0, []⟩) (A := A121) (c := c122) (bytes := 8) (by kernel_rfl) rfl (rep := (fl chI)) (SlF.le hA124 le16) Cells.nil' rfl h168 ?_
          intro v163 cs169 hcl164 hn165
          refine dx_know [] (fun _ _ h => h) (by kernel_rfl) ?_
          obtain ⟨ys170, h176, h⟩ := bind_t h
          obtain ⟨hcl172, hn173, hb174, hb175⟩ := row_apd (rep := (fl chI) M15) (sz := 1) (d := [.int .i64 n5]) h176 hcl164 hn165 (Cells.cons (rep := (fl chI) M15) (sz := 1) (x := n5) (c := [.int .i64 n5]) (rfl) rfl (Cells.nil'))
          refine dx_op (fuel := 2) (i := 6) [true, true, true, true, true, true, true, true, true, true, false, false] (by kernel_rfl) (by kernel_rfl) ?_ rfl
          refine o_append (dst := some 39) 0 0 1 (u := v163) (row := ⟨v163, 3, 1, 0 + s119.length, [] ++ cs169⟩) (b := f161) (cs := [.int .i64 n5]) (bytes := 8) (by kernel_rfl) rfl rfl hb174 hb175 ?_
          intro v171
          refine dx_know [] (fun _ _ h => h) (by kernel_rfl) ?_
          obtain ⟨ys177, h183, h⟩ := bind_t h
          refine dx_op (fuel := 1) (i := 10) [true, true, true, true, true, true, true, true, true, true, true, false] (by kernel_rfl) (by kernel_rfl) ?_ rfl
          refine o_appendS (dst := some 43) 0 (u := v171) (row := ⟨v171, 3, 1, (0 + s119.length) + 1, [] ++ cs169 ++ [.int .i64 n5]⟩) (A := A127) (c := c128) (bytes := 8) (by kernel_rfl) rfl (rep := (fl chI)) (SlF.le hA130 le16) hcl172 hn173 h183 ?_
          intro v178 cs184 hcl179 hn180
          refine dx_know [] (fun _ _ h => h) (by kernel_rfl) ?_
          refine dx_exec (fuel := 0) [] [11] [4] [] [0] [true, true, true, true, true, true, true, true, true, true, true, true] ⟨[(4, .v (v178))], [], [(0, ⟨v178, 3, 1, ((0 + s119.length) + 1) + s125.length, [] ++ cs169 ++ [.int .i64 n5] ++ cs184⟩)], 0⟩ (by kernel_rfl) (fun _ _ h => h) (by kernel_rfl) (by kernel_rfl) ?_ rfl
          refine d_end (by kernel_rfl) ?_
          refine n_then ?_
          refine g_ret ?_
          refine g_pubS 0 (by rfl) hcl179 hn180 ?_
          intro M185 A186 c187 le188 hv189 hA190
          subst hv189
          obtain rfl := some_inj h
          exact n_post (.slice A186 ys177.length c187) (by kernel_rfl) ⟨_, _, rfl, hA190⟩
def ref10_Vars_l1 (k0 : Nat) (l1 : List (Int × Int)) : Nat → (List Int) → Int → Option ((List Int))
  | 0, _, _ => none
  | q + 1, out10, i14 => (if i14 < (l1.length : Int) then ((idx l1 i14)).bind fun x29 => (if x29.1 ≥ 0 then ((ref10_Add k0 out10 x29.1)).bind fun r41 => (if x29.2 ≥ 0 then ((ref10_Add k0 r41 x29.2)).bind fun r56 => ref10_Vars_l1 k0 l1 q r56 (IntKind.i64.wrap (i14 + 1)) else ref10_Vars_l1 k0 l1 q r41 (IntKind.i64.wrap (i14 + 1))) else (if x29.2 ≥ 0 then ((ref10_Add k0 out10 x29.2)).bind fun r73 => ref10_Vars_l1 k0 l1 q r73 (IntKind.i64.wrap (i14 + 1)) else ref10_Vars_l1 k0 l1 q out10 (IntKind.i64.wrap (i14 + 1)))) else some out10)
def ref10_Vars (k : Nat) (l1 : List (Int × Int)) : Option ((List Int)) := (ref10_Vars_l1 k l1 k [] 0).bind (fun out21 => some out21)
theorem ref10_Vars_calls (k : Nat) {M : Mem} {w : World} (hM : Sat M w) (l1 : List (Int × Int)) (A2 : Option Addr) (c3 : Nat) (hA4 : SlF (fl chP) 2 M A2 l1 c3) {r : (List Int)} (h : ref10_Vars k l1 = some r) : Ct Tryz.prog 13 [.slice A2 l1.length c3] [] w M (fun v M' => ∃ (A1 : Option Addr) (c2 : Nat), v = .slice A1 r.length c2 ∧ SlF (fl chI) 1 M' A1 r c2) := by
  unfold ref10_Vars at h
  refine enter (n := 38) Tryz.func13 rfl rfl _ (by kernel_rfl) hM ?_
  refine g_seq ?_
  refine g_region ?_
  refine g_exec 1 [0] [] [] (fun _ => ⟨[(0, .v (.slice A2 l1.length c3))], [], [], 0⟩) (fun _ => by kernel_rfl) fun _ => ?_
  refine g_end (by kernel_rfl) ?_
  refine n_then ?_
  refine g_seq ?_
  refine g_region ?_
  refine g_exec 1 [0, 3] [] [] (fun _ => ⟨[(0, .v (.slice A2 l1.length c3)), (3, .v (.slice none 0 0))], [], [], 0⟩) (fun _ => by kernel_rfl) fun _ => ?_
  refine g_end (by kernel_rfl) ?_
  refine n_then ?_
  refine g_seq ?_
  refine g_seq ?_
  refine g_region ?_
  refine g_exec 1 [0, 3, 4] [] [] (fun _ => ⟨[(0, .v (.slice A2 l1.length c3)), (3, .v (.slice none 0 0)), (4, .v (.int .i64 0))], [], [], 0⟩) (fun _ => by kernel_rfl) fun _ => ?_
  refine g_end (by kernel_rfl) ?_
  refine n_then ?_
  refine g_fin [0, 3, 4] [] [] ⟨[(0, .v (.slice A2 l1.length c3)), (3, .v (.slice none 0 0)), (4, .v (.int .i64 0))], [], [], 0⟩ (by kernel_rfl) ?_
  obtain ⟨t18, h25, h⟩ := bind_t h
  refine g_blockJ (fun M19 s => ∃ (out21 : List Int) (A22 : Option Addr) (c23 : Nat), s = ⟨[(3, .v (.slice A22 out21.length c23))], [], [], 0⟩ ∧ SlF (fl chI) 1 M19 A22 out21 c23 ∧ out21 = t18 ∧ (∀ a u, M a = some u → M19 a = some u)) ?_ ?_
  · refine g_while (ι := Nat) (fun q15 M8 s => ∃ (out10 : List Int) (A11 : Option Addr) (c12 : Nat) (i14 : Int), s = ⟨[(0, .v (.slice A2 l1.length c3)), (3, .v (.slice A11 out10.length c12)), (4, .v (.int .i64 i14))], [], [], 0⟩ ∧ SlF (fl chI) 1 M8 A11 out10 c12 ∧ ref10_Vars_l1 k l1 q15 out10 i14 = some t18 ∧ (∀ a u, M a = some u → M8 a = some u)) (fun q15 => q15) k ⟨[], none, 0, 0, rfl, SlF.nil, h25, (fun _ _ h => h)⟩ ?_
    rintro q15 M8 _ ⟨out10, A11, c12, i14, rfl, hA13, hl17, le9⟩
    obtain _ | q15 := q15
    · cases hl17
    · rw [ref10_Vars_l1] at hl17
      refine g_seq ?_
      refine g_seq ?_
      refine g_region ?_
      refine g_exec 4 [0, 3, 4, 8] [] [] (fun _ => ⟨[(0, .v (.slice A2 l1.length c3)), (3, .v (.slice A11 out10.length c12)), (4, .v (.int .i64 i14)), (8, .v (.bool (decide (i14 < (l1.length : Int)))))], [], [], 0⟩) (fun _ => by kernel_rfl) fun _ => ?_
      refine g_end (by kernel_rfl) ?_
      refine n_then ?_
      refine g_cond (decide (i14 < (l1.length : Int))) (by kernel_rfl) (fun hc27 => ?_) (fun hc27 => ?_)
      · replace hl17 := if_t (of_decide_eq_true hc27) hl17
        refine g_skip ?_
        refine n_then ?_
        refine g_seq ?_
        refine g_block ?_
        refine g_seq ?_
        refine g_seq ?_
        refine g_region ?_
        refine g_exec 2 [0, 3, 4, 11, 12] [] [] (fun _ => ⟨[(0, .v (.slice A2 l1.length c3)), (3, .v (.slice A11 out10.length c12)), (4, .v (.int .i64 i14)), (11, .v (.slice A2 l1.length c3)), (12, .v (.int .i64 i14))], [], [], 0⟩) (fun _ => by kernel_rfl) fun _ => ?_
        obtain ⟨x29, h30, hl17⟩ := bind_t hl17
        obtain ⟨b31, o32, _, hA33, rfl, hc34⟩ := SlF.at hA4 h30
        refine g_yld (y_indexA (dst := some 13) (A := A2) (len := l1.length) (kk := .i64) (ii := i14) (sz := 2) (by kernel_rfl) hA33 (xs := l1) rfl h30) ?_
        refine g_exec 1 [0, 3, 4, 14] [] [] (fun _ => ⟨[(0, .v (.slice A2 l1.length c3)), (3, .v (.slice A11 out10.length c12)), (4, .v (.int .i64 i14)), (14, .v (.pointer (some ⟨b31, o32 + (i14).toNat * 2, none⟩)))], [], [], 0⟩) (fun _ => by kernel_rfl) fun _ => ?_
        refine g_yld (y_load1 (dst := some 15) (ad := ⟨b31, o32 + (i14).toNat * 2, none⟩) (sz := 1) (by kernel_rfl) (v := .int .i64 x29.1) (le9 _ _ (hc34 0 _ rfl))) ?_
        refine g_exec 1 [0, 3, 4, 16] [] [] (fun _ => ⟨[(0, .v (.slice A2 l1.length c3)), (3, .v (.slice A11 out10.length c12)), (4, .v (.int .i64 i14)), (16, .v (.bool (decide (x29.1 ≥ 0))))], [], [], 0⟩) (fun _ => by kernel_rfl) fun _ => ?_
        refine g_end (by kernel_rfl) ?_
        refine n_then ?_
        refine g_cond (decide (x29.1 ≥ 0)) (by kernel_rfl) (fun hc37 => ?_) (fun hc37 => ?_)
        · replace hl17 := if_t (of_decide_eq_true hc37) hl17
          refine g_region ?_
          refine g_exec 3 [0, 3, 4, 17, 18, 19] [] [] (fun _ => ⟨[(0, .v (.slice A2 l1.length c3)), (3, .v (.slice A11 out10.length c12)), (4, .v (.int .i64 i14)), (17, .v (.slice A11 out10.length c12)), (18, .v (.slice A2 l1.length c3)), (19, .v (.int .i64 i14))], [], [], 0⟩) (fun _ => by kernel_rfl) fun _ => ?_
          refine g_yld (y_indexA (dst := some 20) (A := A2) (len := l1.length) (kk := .i64) (ii := i14) (sz := 2) (by kernel_rfl) hA33 (xs := l1) rfl h30) ?_
          refine g_exec 1 [0, 3, 4, 17, 21] [] [] (fun _ => ⟨[(0, .v (.slice A2 l1.length c3)), (3, .v (.slice A11 out10.length c12)), (4, .v (.int .i64 i14)), (17, .v (.slice A11 out10.length c12)), (21, .v (.pointer (some ⟨b31, o32 + (i14).toNat * 2, none⟩)))], [], [], 0⟩) (fun _ => by kernel_rfl) fun _ => ?_
          refine g_yld (y_load1 (dst := some 22) (ad := ⟨b31, o32 + (i14).toNat * 2, none⟩) (sz := 1) (by kernel_rfl) (v := .int .i64 x29.1) (le9 _ _ (hc34 0 _ rfl))) ?_
          obtain ⟨r41, h42, hl17⟩ := bind_t hl17
          refine g_call (dst := some 23) (g := 35) (args := [.slice A11 out10.length c12, .int .i64 x29.1]) (by kernel_rfl) (by kernel_rfl) (fun v M' => ∃ (A1 : Option Addr) (c2 : Nat), v = .slice A1 r41.length c2 ∧ SlF (fl chI) 1 M' A1 r41 c2) (by intro w hst; exact ref10_Add_calls k hst.sat out10 A11 c12 hA13 x29.1 h42) ?_
          rintro _ M43 le44 ⟨A45, c46, rfl, hA47⟩
          refine g_exec 1 [0, 3, 4] [] [] (fun _ => ⟨[(0, .v (.slice A2 l1.length c3)), (3, .v (.slice A45 r41.length c46)), (4, .v (.int .i64 i14))], [], [], 0⟩) (fun _ => by kernel_rfl) fun _ => ?_
          refine g_end (by kernel_rfl) ?_
          refine n_then ?_
          refine g_seq ?_
          refine g_region ?_
          refine g_exec 2 [0, 3, 4, 24, 25] [] [] (fun _ => ⟨[(0, .v (.slice A2 l1.length c3)), (3, .v (.slice A45 r41.length c46)), (4, .v (.int .i64 i14)), (24, .v (.slice A2 l1.length c3)), (25, .v (.int .i64 i14))], [], [], 0⟩) (fun _ => by kernel_rfl) fun _ => ?_
          refine g_yld (y_indexA (dst := some 26) (A := A2) (len := l1.length) (kk := .i64) (ii := i14) (sz := 2) (by kernel_rfl) hA33 (xs := l1) rfl h30) ?_
          refine g_exec 1 [0, 3, 4, 27] [] [] (fun _ => ⟨[(0, .v (.slice A2 l1.length c3)), (3, .v (.slice A45 r41.length c46)), (4, .v (.int .i64 i14)), (27, .v (.pointer (some ⟨b31, o32 + (i14).toNat * 2 + 1, none⟩)))], [], [], 0⟩) (fun _ => by kernel_rfl) fun _ => ?_
          refine g_yld (y_load1 (dst := some 28) (ad := ⟨b31, o32 + (i14).toNat * 2 + 1, none⟩) (sz := 1) (by kernel_rfl) (v := .int .i64 x29.2) (le44 _ _ (le9 _ _ (hc34 1 _ rfl)))) ?_
          refine g_exec 1 [0, 3, 4, 29] [] [] (fun _ => ⟨[(0, .v (.slice A2 l1.length c3)), (3, .v (.slice A45 r41.length c46)), (4, .v (.int .i64 i14)), (29, .v (.bool (decide (x29.2 ≥ 0))))], [], [], 0⟩) (fun _ => by kernel_rfl) fun _ => ?_
          refine g_end (by kernel_rfl) ?_
          refine n_then ?_
          refine g_cond (decide (x29.2 ≥ 0)) (by kernel_rfl) (fun hc52 => ?_) (fun hc52 => ?_)
          · replace hl17 := if_t (of_decide_eq_true hc52) hl17
            refine g_region ?_
            refine g_exec 3 [0, 3, 4, 30, 31, 32] [] [] (fun _ => ⟨[(0, .v (.slice A2 l1.length c3)), (3, .v (.slice A45 r41.length c46)), (4, .v (.int .i64 i14)), (30, .v (.slice A45 r41.length c46)), (31, .v (.slice A2 l1.length c3)), (32, .v (.int .i64 i14))], [], [], 0⟩) (fun _ => by kernel_rfl) fun _ => ?_
            refine g_yld (y_indexA (dst := some 33) (A := A2) (len := l1.length) (kk := .i64) (ii := i14) (sz := 2) (by kernel_rfl) hA33 (xs := l1) rfl h30) ?_
            refine g_exec 1 [0, 3, 4, 30, 34] [] [] (fun _ => ⟨[(0, .v (.slice A2 l1.length c3)), (3, .v (.slice A45 r41.length c46)), (4, .v (.int .i64 i14)), (30, .v (.slice A45 r41.length c46)), (34, .v (.pointer (some ⟨b31, o32 + (i14).toNat * 2 + 1, none⟩)))], [], [], 0⟩) (fun _ => by kernel_rfl) fun _ => ?_
            refine g_yld (y_load1 (dst := some 35) (ad := ⟨b31, o32 + (i14).toNat * 2 + 1, none⟩) (sz := 1) (by kernel_rfl) (v := .int .i64 x29.2) (le44 _ _ (le9 _ _ (hc34 1 _ rfl)))) ?_
            obtain ⟨r56, h57, hl17⟩ := bind_t hl17
            refine g_call (dst := some 36) (g := 35) (args := [.slice A45 r41.length c46, .int .i64 x29.2]) (by kernel_rfl) (by kernel_rfl) (fun v M' => ∃ (A1 : Option Addr) (c2 : Nat), v = .slice A1 r56.length c2 ∧ SlF (fl chI) 1 M' A1 r56 c2) (by intro w hst; exact ref10_Add_calls k hst.sat r41 A45 c46 hA47 x29.2 h57) ?_
            rintro _ M58 le59 ⟨A60, c61, rfl, hA62⟩
            refine g_exec 1 [0, 3, 4] [] [] (fun _ => ⟨[(0, .v (.slice A2 l1.length c3)), (3, .v (.slice A60 r56.length c61)), (4, .v (.int .i64 i14))], [], [], 0⟩) (fun _ => by kernel_rfl) fun _ => ?_
            refine g_end (by kernel_rfl) ?_
            refine n_block ?_
            refine n_then ?_
            refine g_region ?_
            refine g_exec 3 [0, 3, 4] [] [] (fun _ => ⟨[(0, .v (.slice A2 l1.length c3)), (3, .v (.slice A60 r56.length c61)), (4, .v (.int .i64 (IntKind.i64.wrap (i14 + 1))))], [], [], 0⟩) (fun _ => by kernel_rfl) fun _ => ?_
            refine g_end (by kernel_rfl) ?_
            refine n_then ?_
            refine g_fin [0, 3, 4] [] [] ⟨[(0, .v (.slice A2 l1.length c3)), (3, .v (.slice A60 r56.length c61)), (4, .v (.int .i64 (IntKind.i64.wrap (i14 + 1))))], [], [], 0⟩ (by kernel_rfl) ?_
            exact g_again q15 ⟨r56, A60, c61, (IntKind.i64.wrap (i14 + 1)), rfl, hA62, hl17, (fun _ _ h => le59 _ _ (le44 _ _ (le9 _ _ h)))⟩ (Nat.lt_succ_self _)
          · replace hl17 := if_f (of_decide_eq_false hc52) hl17
            refine g_skip ?_
            refine n_block ?_
            refine n_then ?_
            refine g_region ?_
            refine g_exec 3 [0, 3, 4] [] [] (fun _ => ⟨[(0, .v (.slice A2 l1.length c3)), (3, .v (.slice A45 r41.length c46)), (4, .v (.int .i64 (IntKind.i64.wrap (i14 + 1))))], [], [], 0⟩) (fun _ => by kernel_rfl) fun _ => ?_
            refine g_end (by kernel_rfl) ?_
            refine n_then ?_
            refine g_fin [0, 3, 4] [] [] ⟨[(0, .v (.slice A2 l1.length c3)), (3, .v (.slice A45 r41.length c46)), (4, .v (.int .i64 (IntKind.i64.wrap (i14 + 1))))], [], [], 0⟩ (by kernel_rfl) ?_
            exact g_again q15 ⟨r41, A45, c46, (IntKind.i64.wrap (i14 + 1)), rfl, hA47, hl17, (fun _ _ h => le44 _ _ (le9 _ _ h))⟩ (Nat.lt_succ_self _)
        · replace hl17 := if_f (of_decide_eq_false hc37) hl17
          refine g_skip ?_
          refine n_then ?_
          refine g_seq ?_
          refine g_region ?_
          refine g_exec 2 [0, 3, 4, 24, 25] [] [] (fun _ => ⟨[(0, .v (.slice A2 l1.length c3)), (3, .v (.slice A11 out10.length c12)), (4, .v (.int .i64 i14)), (24, .v (.slice A2 l1.length c3)), (25, .v (.int .i64 i14))], [], [], 0⟩) (fun _ => by kernel_rfl) fun _ => ?_
          refine g_yld (y_indexA (dst := some 26) (A := A2) (len := l1.length) (kk := .i64) (ii := i14) (sz := 2) (by kernel_rfl) hA33 (xs := l1) rfl h30) ?_
          refine g_exec 1 [0, 3, 4, 27] [] [] (fun _ => ⟨[(0, .v (.slice A2 l1.length c3)), (3, .v (.slice A11 out10.length c12)), (4, .v (.int .i64 i14)), (27, .v (.pointer (some ⟨b31, o32 + (i14).toNat * 2 + 1, none⟩)))], [], [], 0⟩) (fun _ => by kernel_rfl) fun _ => ?_
          refine g_yld (y_load1 (dst := some 28) (ad := ⟨b31, o32 + (i14).toNat * 2 + 1, none⟩) (sz := 1) (by kernel_rfl) (v := .int .i64 x29.2) (le9 _ _ (hc34 1 _ rfl))) ?_
          refine g_exec 1 [0, 3, 4, 29] [] [] (fun _ => ⟨[(0, .v (.slice A2 l1.length c3)), (3, .v (.slice A11 out10.length c12)), (4, .v (.int .i64 i14)), (29, .v (.bool (decide (x29.2 ≥ 0))))], [], [], 0⟩) (fun _ => by kernel_rfl) fun _ => ?_
          refine g_end (by kernel_rfl) ?_
          refine n_then ?_
          refine g_cond (decide (x29.2 ≥ 0)) (by kernel_rfl) (fun hc69 => ?_) (fun hc69 => ?_)
          · replace hl17 := if_t (of_decide_eq_true hc69) hl17
            refine g_region ?_
            refine g_exec 3 [0, 3, 4, 30, 31, 32] [] [] (fun _ => ⟨[(0, .v (.slice A2 l1.length c3)), (3, .v (.slice A11 out10.length c12)), (4, .v (.int .i64 i14)), (30, .v (.slice A11 out10.length c12)), (31, .v (.slice A2 l1.length c3)), (32, .v (.int .i64 i14))], [], [], 0⟩) (fun _ => by kernel_rfl) fun _ => ?_
            refine g_yld (y_indexA (dst := some 33) (A := A2) (len := l1.length) (kk := .i64) (ii := i14) (sz := 2) (by kernel_rfl) hA33 (xs := l1) rfl h30) ?_
            refine g_exec 1 [0, 3, 4, 30, 34] [] [] (fun _ => ⟨[(0, .v (.slice A2 l1.length c3)), (3, .v (.slice A11 out10.length c12)), (4, .v (.int .i64 i14)), (30, .v (.slice A11 out10.length c12)), (34, .v (.pointer (some ⟨b31, o32 + (i14).toNat * 2 + 1, none⟩)))], [], [], 0⟩) (fun _ => by kernel_rfl) fun _ => ?_
            refine g_yld (y_load1 (dst := some 35) (ad := ⟨b31, o32 + (i14).toNat * 2 + 1, none⟩) (sz := 1) (by kernel_rfl) (v := .int .i64 x29.2) (le9 _ _ (hc34 1 _ rfl))) ?_
            obtain ⟨r73, h74, hl17⟩ := bind_t hl17
            refine g_call (dst := some 36) (g := 35) (args := [.slice A11 out10.length c12, .int .i64 x29.2]) (by kernel_rfl) (by kernel_rfl) (fun v M' => ∃ (A1 : Option Addr) (c2 : Nat), v = .slice A1 r73.length c2 ∧ SlF (fl chI) 1 M' A1 r73 c2) (by intro w hst; exact ref10_Add_calls k hst.sat out10 A11 c12 hA13 x29.2 h74) ?_
            rintro _ M75 le76 ⟨A77, c78, rfl, hA79⟩
            refine g_exec 1 [0, 3, 4] [] [] (fun _ => ⟨[(0, .v (.slice A2 l1.length c3)), (3, .v (.slice A77 r73.length c78)), (4, .v (.int .i64 i14))], [], [], 0⟩) (fun _ => by kernel_rfl) fun _ => ?_
            refine g_end (by kernel_rfl) ?_
            refine n_block ?_
            refine n_then ?_
            refine g_region ?_
            refine g_exec 3 [0, 3, 4] [] [] (fun _ => ⟨[(0, .v (.slice A2 l1.length c3)), (3, .v (.slice A77 r73.length c78)), (4, .v (.int .i64 (IntKind.i64.wrap (i14 + 1))))], [], [], 0⟩) (fun _ => by kernel_rfl) fun _ => ?_
            refine g_end (by kernel_rfl) ?_
            refine n_then ?_
            refine g_fin [0, 3, 4] [] [] ⟨[(0, .v (.slice A2 l1.length c3)), (3, .v (.slice A77 r73.length c78)), (4, .v (.int .i64 (IntKind.i64.wrap (i14 + 1))))], [], [], 0⟩ (by kernel_rfl) ?_
            exact g_again q15 ⟨r73, A77, c78, (IntKind.i64.wrap (i14 + 1)), rfl, hA79, hl17, (fun _ _ h => le76 _ _ (le9 _ _ h))⟩ (Nat.lt_succ_self _)
          · replace hl17 := if_f (of_decide_eq_false hc69) hl17
            refine g_skip ?_
            refine n_block ?_
            refine n_then ?_
            refine g_region ?_
            refine g_exec 3 [0, 3, 4] [] [] (fun _ => ⟨[(0, .v (.slice A2 l1.length c3)), (3, .v (.slice A11 out10.length c12)), (4, .v (.int .i64 (IntKind.i64.wrap (i14 + 1))))], [], [], 0⟩) (fun _ => by kernel_rfl) fun _ => ?_
            refine g_end (by kernel_rfl) ?_
            refine n_then ?_
            refine g_fin [0, 3, 4] [] [] ⟨[(0, .v (.slice A2 l1.length c3)), (3, .v (.slice A11 out10.length c12)), (4, .v (.int .i64 (IntKind.i64.wrap (i14 + 1))))], [], [], 0⟩ (by kernel_rfl) ?_
            exact g_again q15 ⟨out10, A11, c12, (IntKind.i64.wrap (i14 + 1)), rfl, hA13, hl17, le9⟩ (Nat.lt_succ_self _)
      · replace hl17 := if_f (of_decide_eq_false hc27) hl17
        refine g_exit ?_
        refine n_then_exit ?_
        refine n_then_exit ?_
        refine n_block_exit ?_
        refine g_fin [3] [] [] ⟨[(3, .v (.slice A11 out10.length c12))], [], [], 0⟩ (by kernel_rfl) ?_
        exact n_join ⟨out10, A11, c12, rfl, hA13, some_inj hl17, le9⟩
  · rintro M19 _ ⟨out21, A22, c23, rfl, hA24, ht16, le20⟩
    subst ht16
    refine n_then ?_
    refine g_seq ?_
    refine g_region ?_
    refine g_exec 2 [2] [] [] (fun _ => ⟨[(2, .v (.slice A22 out21.length c23))], [], [], 0⟩) (fun _ => by kernel_rfl) fun _ => ?_
    refine g_end (by kernel_rfl) ?_
    refine n_then ?_
    refine g_ret ?_
    obtain rfl := some_inj h
    exact n_post (.slice A22 out21.length c23) (by kernel_rfl) ⟨_, _, rfl, hA24⟩
def ref10_Points_l1 (k0 : Nat) (l1 : List (Int × Int)) : Nat → (List Int) → Int → Option ((List Int))
  | 0, _, _ => none
  | q + 1, out10, i14 => (if i14 < (l1.length : Int) then ((idx l1 i14)).bind fun x29 => (if x29.1 < 0 then ((ref10_PointOf x29.1)).bind fun r41 => ((ref10_Add k0 out10 r41)).bind fun r46 => (if x29.2 < 0 then ((ref10_PointOf x29.2)).bind fun r61 => ((ref10_Add k0 r46 r61)).bind fun r66 => ref10_Points_l1 k0 l1 q r66 (IntKind.i64.wrap (i14 + 1)) else ref10_Points_l1 k0 l1 q r46 (IntKind.i64.wrap (i14 + 1))) else (if x29.2 < 0 then ((ref10_PointOf x29.2)).bind fun r83 => ((ref10_Add k0 out10 r83)).bind fun r88 => ref10_Points_l1 k0 l1 q r88 (IntKind.i64.wrap (i14 + 1)) else ref10_Points_l1 k0 l1 q out10 (IntKind.i64.wrap (i14 + 1)))) else some out10)
def ref10_Points (k : Nat) (l1 : List (Int × Int)) : Option ((List Int)) := (ref10_Points_l1 k l1 k [] 0).bind (fun out21 => some out21)
theorem ref10_Points_calls (k : Nat) {M : Mem} {w : World} (hM : Sat M w) (l1 : List (Int × Int)) (A2 : Option Addr) (c3 : Nat) (hA4 : SlF (fl chP) 2 M A2 l1 c3) {r : (List Int)} (h : ref10_Points k l1 = some r) : Ct Tryz.prog 15 [.slice A2 l1.length c3] [] w M (fun v M' => ∃ (A1 : Option Addr) (c2 : Nat), v = .slice A1 r.length c2 ∧ SlF (fl chI) 1 M' A1 r c2) := by
  unfold ref10_Points at h
  refine enter (n := 40) Tryz.func15 rfl rfl _ (by kernel_rfl) hM ?_
  refine g_seq ?_
  refine g_region ?_
  refine g_exec 1 [0] [] [] (fun _ => ⟨[(0, .v (.slice A2 l1.length c3))], [], [], 0⟩) (fun _ => by kernel_rfl) fun _ => ?_
  refine g_end (by kernel_rfl) ?_
  refine n_then ?_
  refine g_seq ?_
  refine g_region ?_
  refine g_exec 1 [0, 3] [] [] (fun _ => ⟨[(0, .v (.slice A2 l1.length c3)), (3, .v (.slice none 0 0))], [], [], 0⟩) (fun _ => by kernel_rfl) fun _ => ?_
  refine g_end (by kernel_rfl) ?_
  refine n_then ?_
  refine g_seq ?_
  refine g_seq ?_
  refine g_region ?_
  refine g_exec 1 [0, 3, 4] [] [] (fun _ => ⟨[(0, .v (.slice A2 l1.length c3)), (3, .v (.slice none 0 0)), (4, .v (.int .i64 0))], [], [], 0⟩) (fun _ => by kernel_rfl) fun _ => ?_
  refine g_end (by kernel_rfl) ?_
  refine n_then ?_
  refine g_fin [0, 3, 4] [] [] ⟨[(0, .v (.slice A2 l1.length c3)), (3, .v (.slice none 0 0)), (4, .v (.int .i64 0))], [], [], 0⟩ (by kernel_rfl) ?_
  obtain ⟨t18, h25, h⟩ := bind_t h
  refine g_blockJ (fun M19 s => ∃ (out21 : List Int) (A22 : Option Addr) (c23 : Nat), s = ⟨[(3, .v (.slice A22 out21.length c23))], [], [], 0⟩ ∧ SlF (fl chI) 1 M19 A22 out21 c23 ∧ out21 = t18 ∧ (∀ a u, M a = some u → M19 a = some u)) ?_ ?_
  · refine g_while (ι := Nat) (fun q15 M8 s => ∃ (out10 : List Int) (A11 : Option Addr) (c12 : Nat) (i14 : Int), s = ⟨[(0, .v (.slice A2 l1.length c3)), (3, .v (.slice A11 out10.length c12)), (4, .v (.int .i64 i14))], [], [], 0⟩ ∧ SlF (fl chI) 1 M8 A11 out10 c12 ∧ ref10_Points_l1 k l1 q15 out10 i14 = some t18 ∧ (∀ a u, M a = some u → M8 a = some u)) (fun q15 => q15) k ⟨[], none, 0, 0, rfl, SlF.nil, h25, (fun _ _ h => h)⟩ ?_
    rintro q15 M8 _ ⟨out10, A11, c12, i14, rfl, hA13, hl17, le9⟩
    obtain _ | q15 := q15
    · cases hl17
    · rw [ref10_Points_l1] at hl17
      refine g_seq ?_
      refine g_seq ?_
      refine g_region ?_
      refine g_exec 4 [0, 3, 4, 8] [] [] (fun _ => ⟨[(0, .v (.slice A2 l1.length c3)), (3, .v (.slice A11 out10.length c12)), (4, .v (.int .i64 i14)), (8, .v (.bool (decide (i14 < (l1.length : Int)))))], [], [], 0⟩) (fun _ => by kernel_rfl) fun _ => ?_
      refine g_end (by kernel_rfl) ?_
      refine n_then ?_
      refine g_cond (decide (i14 < (l1.length : Int))) (by kernel_rfl) (fun hc27 => ?_) (fun hc27 => ?_)
      · replace hl17 := if_t (of_decide_eq_true hc27) hl17
        refine g_skip ?_
        refine n_then ?_
        refine g_seq ?_
        refine g_block ?_
        refine g_seq ?_
        refine g_seq ?_
        refine g_region ?_
        refine g_exec 2 [0, 3, 4, 11, 12] [] [] (fun _ => ⟨[(0, .v (.slice A2 l1.length c3)), (3, .v (.slice A11 out10.length c12)), (4, .v (.int .i64 i14)), (11, .v (.slice A2 l1.length c3)), (12, .v (.int .i64 i14))], [], [], 0⟩) (fun _ => by kernel_rfl) fun _ => ?_
        obtain ⟨x29, h30, hl17⟩ := bind_t hl17
        obtain ⟨b31, o32, _, hA33, rfl, hc34⟩ := SlF.at hA4 h30
        refine g_yld (y_indexA (dst := some 13) (A := A2) (len := l1.length) (kk := .i64) (ii := i14) (sz := 2) (by kernel_rfl) hA33 (xs := l1) rfl h30) ?_
        refine g_exec 1 [0, 3, 4, 14] [] [] (fun _ => ⟨[(0, .v (.slice A2 l1.length c3)), (3, .v (.slice A11 out10.length c12)), (4, .v (.int .i64 i14)), (14, .v (.pointer (some ⟨b31, o32 + (i14).toNat * 2, none⟩)))], [], [], 0⟩) (fun _ => by kernel_rfl) fun _ => ?_
        refine g_yld (y_load1 (dst := some 15) (ad := ⟨b31, o32 + (i14).toNat * 2, none⟩) (sz := 1) (by kernel_rfl) (v := .int .i64 x29.1) (le9 _ _ (hc34 0 _ rfl))) ?_
        refine g_exec 1 [0, 3, 4, 16] [] [] (fun _ => ⟨[(0, .v (.slice A2 l1.length c3)), (3, .v (.slice A11 out10.length c12)), (4, .v (.int .i64 i14)), (16, .v (.bool (decide (x29.1 < 0))))], [], [], 0⟩) (fun _ => by kernel_rfl) fun _ => ?_
        refine g_end (by kernel_rfl) ?_
        refine n_then ?_
        refine g_cond (decide (x29.1 < 0)) (by kernel_rfl) (fun hc37 => ?_) (fun hc37 => ?_)
        · replace hl17 := if_t (of_decide_eq_true hc37) hl17
          refine g_region ?_
          refine g_exec 3 [0, 3, 4, 17, 18, 19] [] [] (fun _ => ⟨[(0, .v (.slice A2 l1.length c3)), (3, .v (.slice A11 out10.length c12)), (4, .v (.int .i64 i14)), (17, .v (.slice A11 out10.length c12)), (18, .v (.slice A2 l1.length c3)), (19, .v (.int .i64 i14))], [], [], 0⟩) (fun _ => by kernel_rfl) fun _ => ?_
          refine g_yld (y_indexA (dst := some 20) (A := A2) (len := l1.length) (kk := .i64) (ii := i14) (sz := 2) (by kernel_rfl) hA33 (xs := l1) rfl h30) ?_
          refine g_exec 1 [0, 3, 4, 17, 21] [] [] (fun _ => ⟨[(0, .v (.slice A2 l1.length c3)), (3, .v (.slice A11 out10.length c12)), (4, .v (.int .i64 i14)), (17, .v (.slice A11 out10.length c12)), (21, .v (.pointer (some ⟨b31, o32 + (i14).toNat * 2, none⟩)))], [], [], 0⟩) (fun _ => by kernel_rfl) fun _ => ?_
          refine g_yld (y_load1 (dst := some 22) (ad := ⟨b31, o32 + (i14).toNat * 2, none⟩) (sz := 1) (by kernel_rfl) (v := .int .i64 x29.1) (le9 _ _ (hc34 0 _ rfl))) ?_
          obtain ⟨r41, h42, hl17⟩ := bind_t hl17
          refine g_call (dst := some 23) (g := 26) (args := [.int .i64 x29.1]) (by kernel_rfl) (by kernel_rfl) (fun v _ => v = .int .i64 r41) (by intro w hst; exact ref10_PointOf_calls hst.sat x29.1 h42) ?_
          rintro _ M43 le44 rfl
          obtain ⟨r46, h47, hl17⟩ := bind_t hl17
          refine g_call (dst := some 24) (g := 35) (args := [.slice A11 out10.length c12, .int .i64 r41]) (by kernel_rfl) (by kernel_rfl) (fun v M' => ∃ (A1 : Option Addr) (c2 : Nat), v = .slice A1 r46.length c2 ∧ SlF (fl chI) 1 M' A1 r46 c2) (by intro w hst; exact ref10_Add_calls k hst.sat out10 A11 c12 (SlF.le hA13 le44) r41 h47) ?_
          rintro _ M48 le49 ⟨A50, c51, rfl, hA52⟩
          refine g_exec 1 [0, 3, 4] [] [] (fun _ => ⟨[(0, .v (.slice A2 l1.length c3)), (3, .v (.slice A50 r46.length c51)), (4, .v (.int .i64 i14))], [], [], 0⟩) (fun _ => by kernel_rfl) fun _ => ?_
          refine g_end (by kernel_rfl) ?_
          refine n_then ?_
          refine g_seq ?_
          refine g_region ?_
          refine g_exec 2 [0, 3, 4, 25, 26] [] [] (fun _ => ⟨[(0, .v (.slice A2 l1.length c3)), (3, .v (.slice A50 r46.length c51)), (4, .v (.int .i64 i14)), (25, .v (.slice A2 l1.length c3)), (26, .v (.int .i64 i14))], [], [], 0⟩) (fun _ => by kernel_rfl) fun _ => ?_
          refine g_yld (y_indexA (dst := some 27) (A := A2) (len := l1.length) (kk := .i64) (ii := i14) (sz := 2) (by kernel_rfl) hA33 (xs := l1) rfl h30) ?_
          refine g_exec 1 [0, 3, 4, 28] [] [] (fun _ => ⟨[(0, .v (.slice A2 l1.length c3)), (3, .v (.slice A50 r46.length c51)), (4, .v (.int .i64 i14)), (28, .v (.pointer (some ⟨b31, o32 + (i14).toNat * 2 + 1, none⟩)))], [], [], 0⟩) (fun _ => by kernel_rfl) fun _ => ?_
          refine g_yld (y_load1 (dst := some 29) (ad := ⟨b31, o32 + (i14).toNat * 2 + 1, none⟩) (sz := 1) (by kernel_rfl) (v := .int .i64 x29.2) (le49 _ _ (le44 _ _ (le9 _ _ (hc34 1 _ rfl))))) ?_
          refine g_exec 1 [0, 3, 4, 30] [] [] (fun _ => ⟨[(0, .v (.slice A2 l1.length c3)), (3, .v (.slice A50 r46.length c51)), (4, .v (.int .i64 i14)), (30, .v (.bool (decide (x29.2 < 0))))], [], [], 0⟩) (fun _ => by kernel_rfl) fun _ => ?_
          refine g_end (by kernel_rfl) ?_
          refine n_then ?_
          refine g_cond (decide (x29.2 < 0)) (by kernel_rfl) (fun hc57 => ?_) (fun hc57 => ?_)
          · replace hl17 := if_t (of_decide_eq_true hc57) hl17
            refine g_region ?_
            refine g_exec 3 [0, 3, 4, 31, 32, 33] [] [] (fun _ => ⟨[(0, .v (.slice A2 l1.length c3)), (3, .v (.slice A50 r46.length c51)), (4, .v (.int .i64 i14)), (31, .v (.slice A50 r46.length c51)), (32, .v (.slice A2 l1.length c3)), (33, .v (.int .i64 i14))], [], [], 0⟩) (fun _ => by kernel_rfl) fun _ => ?_
            refine g_yld (y_indexA (dst := some 34) (A := A2) (len := l1.length) (kk := .i64) (ii := i14) (sz := 2) (by kernel_rfl) hA33 (xs := l1) rfl h30) ?_
            refine g_exec 1 [0, 3, 4, 31, 35] [] [] (fun _ => ⟨[(0, .v (.slice A2 l1.length c3)), (3, .v (.slice A50 r46.length c51)), (4, .v (.int .i64 i14)), (31, .v (.slice A50 r46.length c51)), (35, .v (.pointer (some ⟨b31, o32 + (i14).toNat * 2 + 1, none⟩)))], [], [], 0⟩) (fun _ => by kernel_rfl) fun _ => ?_
            refine g_yld (y_load1 (dst := some 36) (ad := ⟨b31, o32 + (i14).toNat * 2 + 1, none⟩) (sz := 1) (by kernel_rfl) (v := .int .i64 x29.2) (le49 _ _ (le44 _ _ (le9 _ _ (hc34 1 _ rfl))))) ?_
            obtain ⟨r61, h62, hl17⟩ := bind_t hl17
            refine g_call (dst := some 37) (g := 26) (args := [.int .i64 x29.2]) (by kernel_rfl) (by kernel_rfl) (fun v _ => v = .int .i64 r61) (by intro w hst; exact ref10_PointOf_calls hst.sat x29.2 h62) ?_
            rintro _ M63 le64 rfl
            obtain ⟨r66, h67, hl17⟩ := bind_t hl17
            refine g_call (dst := some 38) (g := 35) (args := [.slice A50 r46.length c51, .int .i64 r61]) (by kernel_rfl) (by kernel_rfl) (fun v M' => ∃ (A1 : Option Addr) (c2 : Nat), v = .slice A1 r66.length c2 ∧ SlF (fl chI) 1 M' A1 r66 c2) (by intro w hst; exact ref10_Add_calls k hst.sat r46 A50 c51 (SlF.le hA52 le64) r61 h67) ?_
            rintro _ M68 le69 ⟨A70, c71, rfl, hA72⟩
            refine g_exec 1 [0, 3, 4] [] [] (fun _ => ⟨[(0, .v (.slice A2 l1.length c3)), (3, .v (.slice A70 r66.length c71)), (4, .v (.int .i64 i14))], [], [], 0⟩) (fun _ => by kernel_rfl) fun _ => ?_
            refine g_end (by kernel_rfl) ?_
            refine n_block ?_
            refine n_then ?_
            refine g_region ?_
            refine g_exec 3 [0, 3, 4] [] [] (fun _ => ⟨[(0, .v (.slice A2 l1.length c3)), (3, .v (.slice A70 r66.length c71)), (4, .v (.int .i64 (IntKind.i64.wrap (i14 + 1))))], [], [], 0⟩) (fun _ => by kernel_rfl) fun _ => ?_
            refine g_end (by kernel_rfl) ?_
            refine n_then ?_
            refine g_fin [0, 3, 4] [] [] ⟨[(0, .v (.slice A2 l1.length c3)), (3, .v (.slice A70 r66.length c71)), (4, .v (.int .i64 (IntKind.i64.wrap (i14 + 1))))], [], [], 0⟩ (by kernel_rfl) ?_
            exact g_again q15 ⟨r66, A70, c71, (IntKind.i64.wrap (i14 + 1)), rfl, hA72, hl17, (fun _ _ h => le69 _ _ (le64 _ _ (le49 _ _ (le44 _ _ (le9 _ _ h)))))⟩ (Nat.lt_succ_self _)
          · replace hl17 := if_f (of_decide_eq_false hc57) hl17
            refine g_skip ?_
            refine n_block ?_
            refine n_then ?_
            refine g_region ?_
            refine g_exec 3 [0, 3, 4] [] [] (fun _ => ⟨[(0, .v (.slice A2 l1.length c3)), (3, .v (.slice A50 r46.length c51)), (4, .v (.int .i64 (IntKind.i64.wrap (i14 + 1))))], [], [], 0⟩) (fun _ => by kernel_rfl) fun _ => ?_
            refine g_end (by kernel_rfl) ?_
            refine n_then ?_
            refine g_fin [0, 3, 4] [] [] ⟨[(0, .v (.slice A2 l1.length c3)), (3, .v (.slice A50 r46.length c51)), (4, .v (.int .i64 (IntKind.i64.wrap (i14 + 1))))], [], [], 0⟩ (by kernel_rfl) ?_
            exact g_again q15 ⟨r46, A50, c51, (IntKind.i64.wrap (i14 + 1)), rfl, hA52, hl17, (fun _ _ h => le49 _ _ (le44 _ _ (le9 _ _ h)))⟩ (Nat.lt_succ_self _)
        · replace hl17 := if_f (of_decide_eq_false hc37) hl17
          refine g_skip ?_
          refine n_then ?_
          refine g_seq ?_
          refine g_region ?_
          refine g_exec 2 [0, 3, 4, 25, 26] [] [] (fun _ => ⟨[(0, .v (.slice A2 l1.length c3)), (3, .v (.slice A11 out10.length c12)), (4, .v (.int .i64 i14)), (25, .v (.slice A2 l1.length c3)), (26, .v (.int .i64 i14))], [], [], 0⟩) (fun _ => by kernel_rfl) fun _ => ?_
          refine g_yld (y_indexA (dst := some 27) (A := A2) (len := l1.length) (kk := .i64) (ii := i14) (sz := 2) (by kernel_rfl) hA33 (xs := l1) rfl h30) ?_
          refine g_exec 1 [0, 3, 4, 28] [] [] (fun _ => ⟨[(0, .v (.slice A2 l1.length c3)), (3, .v (.slice A11 out10.length c12)), (4, .v (.int .i64 i14)), (28, .v (.pointer (some ⟨b31, o32 + (i14).toNat * 2 + 1, none⟩)))], [], [], 0⟩) (fun _ => by kernel_rfl) fun _ => ?_
          refine g_yld (y_load1 (dst := some 29) (ad := ⟨b31, o32 + (i14).toNat * 2 + 1, none⟩) (sz := 1) (by kernel_rfl) (v := .int .i64 x29.2) (le9 _ _ (hc34 1 _ rfl))) ?_
          refine g_exec 1 [0, 3, 4, 30] [] [] (fun _ => ⟨[(0, .v (.slice A2 l1.length c3)), (3, .v (.slice A11 out10.length c12)), (4, .v (.int .i64 i14)), (30, .v (.bool (decide (x29.2 < 0))))], [], [], 0⟩) (fun _ => by kernel_rfl) fun _ => ?_
          refine g_end (by kernel_rfl) ?_
          refine n_then ?_
          refine g_cond (decide (x29.2 < 0)) (by kernel_rfl) (fun hc79 => ?_) (fun hc79 => ?_)
          · replace hl17 := if_t (of_decide_eq_true hc79) hl17
            refine g_region ?_
            refine g_exec 3 [0, 3, 4, 31, 32, 33] [] [] (fun _ => ⟨[(0, .v (.slice A2 l1.length c3)), (3, .v (.slice A11 out10.length c12)), (4, .v (.int .i64 i14)), (31, .v (.slice A11 out10.length c12)), (32, .v (.slice A2 l1.length c3)), (33, .v (.int .i64 i14))], [], [], 0⟩) (fun _ => by kernel_rfl) fun _ => ?_
            refine g_yld (y_indexA (dst := some 34) (A := A2) (len := l1.length) (kk := .i64) (ii := i14) (sz := 2) (by kernel_rfl) hA33 (xs := l1) rfl h30) ?_
            refine g_exec 1 [0, 3, 4, 31, 35] [] [] (fun _ => ⟨[(0, .v (.slice A2 l1.length c3)), (3, .v (.slice A11 out10.length c12)), (4, .v (.int .i64 i14)), (31, .v (.slice A11 out10.length c12)), (35, .v (.pointer (some ⟨b31, o32 + (i14).toNat * 2 + 1, none⟩)))], [], [], 0⟩) (fun _ => by kernel_rfl) fun _ => ?_
            refine g_yld (y_load1 (dst := some 36) (ad := ⟨b31, o32 + (i14).toNat * 2 + 1, none⟩) (sz := 1) (by kernel_rfl) (v := .int .i64 x29.2) (le9 _ _ (hc34 1 _ rfl))) ?_
            obtain ⟨r83, h84, hl17⟩ := bind_t hl17
            refine g_call (dst := some 37) (g := 26) (args := [.int .i64 x29.2]) (by kernel_rfl) (by kernel_rfl) (fun v _ => v = .int .i64 r83) (by intro w hst; exact ref10_PointOf_calls hst.sat x29.2 h84) ?_
            rintro _ M85 le86 rfl
            obtain ⟨r88, h89, hl17⟩ := bind_t hl17
            refine g_call (dst := some 38) (g := 35) (args := [.slice A11 out10.length c12, .int .i64 r83]) (by kernel_rfl) (by kernel_rfl) (fun v M' => ∃ (A1 : Option Addr) (c2 : Nat), v = .slice A1 r88.length c2 ∧ SlF (fl chI) 1 M' A1 r88 c2) (by intro w hst; exact ref10_Add_calls k hst.sat out10 A11 c12 (SlF.le hA13 le86) r83 h89) ?_
            rintro _ M90 le91 ⟨A92, c93, rfl, hA94⟩
            refine g_exec 1 [0, 3, 4] [] [] (fun _ => ⟨[(0, .v (.slice A2 l1.length c3)), (3, .v (.slice A92 r88.length c93)), (4, .v (.int .i64 i14))], [], [], 0⟩) (fun _ => by kernel_rfl) fun _ => ?_
            refine g_end (by kernel_rfl) ?_
            refine n_block ?_
            refine n_then ?_
            refine g_region ?_
            refine g_exec 3 [0, 3, 4] [] [] (fun _ => ⟨[(0, .v (.slice A2 l1.length c3)), (3, .v (.slice A92 r88.length c93)), (4, .v (.int .i64 (IntKind.i64.wrap (i14 + 1))))], [], [], 0⟩) (fun _ => by kernel_rfl) fun _ => ?_
            refine g_end (by kernel_rfl) ?_
            refine n_then ?_
            refine g_fin [0, 3, 4] [] [] ⟨[(0, .v (.slice A2 l1.length c3)), (3, .v (.slice A92 r88.length c93)), (4, .v (.int .i64 (IntKind.i64.wrap (i14 + 1))))], [], [], 0⟩ (by kernel_rfl) ?_
            exact g_again q15 ⟨r88, A92, c93, (IntKind.i64.wrap (i14 + 1)), rfl, hA94, hl17, (fun _ _ h => le91 _ _ (le86 _ _ (le9 _ _ h)))⟩ (Nat.lt_succ_self _)
          · replace hl17 := if_f (of_decide_eq_false hc79) hl17
            refine g_skip ?_
            refine n_block ?_
            refine n_then ?_
            refine g_region ?_
            refine g_exec 3 [0, 3, 4] [] [] (fun _ => ⟨[(0, .v (.slice A2 l1.length c3)), (3, .v (.slice A11 out10.length c12)), (4, .v (.int .i64 (IntKind.i64.wrap (i14 + 1))))], [], [], 0⟩) (fun _ => by kernel_rfl) fun _ => ?_
            refine g_end (by kernel_rfl) ?_
            refine n_then ?_
            refine g_fin [0, 3, 4] [] [] ⟨[(0, .v (.slice A2 l1.length c3)), (3, .v (.slice A11 out10.length c12)), (4, .v (.int .i64 (IntKind.i64.wrap (i14 + 1))))], [], [], 0⟩ (by kernel_rfl) ?_
            exact g_again q15 ⟨out10, A11, c12, (IntKind.i64.wrap (i14 + 1)), rfl, hA13, hl17, le9⟩ (Nat.lt_succ_self _)
      · replace hl17 := if_f (of_decide_eq_false hc27) hl17
        refine g_exit ?_
        refine n_then_exit ?_
        refine n_then_exit ?_
        refine n_block_exit ?_
        refine g_fin [3] [] [] ⟨[(3, .v (.slice A11 out10.length c12))], [], [], 0⟩ (by kernel_rfl) ?_
        exact n_join ⟨out10, A11, c12, rfl, hA13, some_inj hl17, le9⟩
  · rintro M19 _ ⟨out21, A22, c23, rfl, hA24, ht16, le20⟩
    subst ht16
    refine n_then ?_
    refine g_seq ?_
    refine g_region ?_
    refine g_exec 2 [2] [] [] (fun _ => ⟨[(2, .v (.slice A22 out21.length c23))], [], [], 0⟩) (fun _ => by kernel_rfl) fun _ => ?_
    refine g_end (by kernel_rfl) ?_
    refine n_then ?_
    refine g_ret ?_
    obtain rfl := some_inj h
    exact n_post (.slice A22 out21.length c23) (by kernel_rfl) ⟨_, _, rfl, hA24⟩
def ref10_Shift_l1 (l1 : List (Int × Int)) (by5 : Int) : Nat → (List (Int × Int)) → Int → Option ((List (Int × Int)))
  | 0, _, _ => none
  | q + 1, ys46, i52 => (if i52 < (l1.length : Int) then ((idx l1 i52)).bind fun x68 => ((ref10_shift x68.1 by5)).bind fun r74 => ((ref10_shift x68.2 by5)).bind fun r78 => ((apd 16 ys46 [(r74, r78)])).bind fun ys83 => ref10_Shift_l1 l1 by5 q ys83 (IntKind.i64.wrap (i52 + 1)) else some ys46)
def ref10_Shift (k : Nat) (l1 : List (Int × Int)) (by5 : Int) : Option ((List (Int × Int))) := (ref10_Shift_l1 l1 by5 k ([] : List (Int × Int)) 0).bind (fun ys59 => some ys59)
theorem ref10_Shift_calls (k : Nat) {M : Mem} {w : World} (hM : Sat M w) (l1 : List (Int × Int)) (A2 : Option Addr) (c3 : Nat) (hA4 : SlF (fl chP) 2 M A2 l1 c3) (by5 : Int) {r : (List (Int × Int))} (h : ref10_Shift k l1 by5 = some r) : Ct Tryz.prog 20 [.slice A2 l1.length c3, .int .i64 by5] [] w M (fun v M' => ∃ (A1 : Option Addr) (c2 : Nat), v = .slice A1 r.length c2 ∧ SlF (fl chP) 2 M' A1 r c2) := by
  unfold ref10_Shift at h
  refine enter (n := 32) Tryz.func20 rfl rfl _ (by kernel_rfl) hM ?_
  refine g_seq ?_
  refine g_region ?_
  refine g_exec 1 [0, 1] [] [] (fun _ => ⟨[(0, .v (.slice A2 l1.length c3)), (1, .v (.int .i64 by5))], [], [], 0⟩) (fun _ => by kernel_rfl) fun _ => ?_
  refine g_end (by kernel_rfl) ?_
  refine n_then ?_
  refine g_seq ?_
  refine g_region ?_
  refine g_exec 1 [0, 1, 5] [] [] (fun _ => ⟨[(0, .v (.slice A2 l1.length c3)), (1, .v (.int .i64 by5)), (5, .v (.slice none 0 0))], [], [], 0⟩) (fun _ => by kernel_rfl) fun _ => ?_
  refine g_end (by kernel_rfl) ?_
  refine n_then ?_
  refine g_seq ?_
  refine g_seq ?_
  refine g_region ?_
  refine g_exec 1 [0, 1, 5, 6] [] [] (fun _ => ⟨[(0, .v (.slice A2 l1.length c3)), (1, .v (.int .i64 by5)), (5, .v (.slice none 0 0)), (6, .v (.int .i64 0))], [], [], 0⟩) (fun _ => by kernel_rfl) fun _ => ?_
  refine g_end (by kernel_rfl) ?_
  refine n_then ?_
  refine g_fin [0, 1, 5, 6] [] [] ⟨[(0, .v (.slice A2 l1.length c3)), (1, .v (.int .i64 by5)), (5, .v (.slice none 0 0)), (6, .v (.int .i64 0))], [], [], 0⟩ (by kernel_rfl) ?_
  refine g_newrow 0 60 2 (by rfl) ?_
  obtain ⟨t56, h65, h⟩ := bind_t h
  refine g_blockJ (fun M57 s => ∃ (ys59 : List (Int × Int)) (v60 : Value) (n61 : Nat) (cs62 : List Value), s = ⟨[(5, .v (v60))], [], [(0, ⟨v60, 60, 2, n61, cs62⟩)], 0⟩ ∧ Cells ((fl chP) M57) 2 ys59 cs62 ∧ n61 = ys59.length ∧ ys59 = t56 ∧ (∀ a u, M a = some u → M57 a = some u)) ?_ ?_
  · refine g_while (ι := Nat) (fun q53 M44 s => ∃ (ys46 : List (Int × Int)) (v47 : Value) (n48 : Nat) (cs49 : List Value) (i52 : Int), s = ⟨[(0, .v (.slice A2 l1.length c3)), (1, .v (.int .i64 by5)), (5, .v (v47)), (6, .v (.int .i64 i52))], [], [(0, ⟨v47, 60, 2, n48, cs49⟩)], 0⟩ ∧ Cells ((fl chP) M44) 2 ys46 cs49 ∧ n48 = ys46.length ∧ ref10_Shift_l1 l1 by5 q53 ys46 i52 = some t56 ∧ (∀ a u, M a = some u → M44 a = some u)) (fun q53 => q53) k ⟨([] : List (Int × Int)), (.slice none 0 0), 0, [], 0, rfl, Cells.nil', rfl, h65, (fun _ _ h => h)⟩ ?_
    rintro q53 M44 _ ⟨ys46, v47, n48, cs49, i52, rfl, hcl50, hn51, hl55, le45⟩
    obtain _ | q53 := q53
    · cases hl55
    · rw [ref10_Shift_l1] at hl55
      refine g_seq ?_
      refine g_seq ?_
      refine g_region ?_
      refine g_exec 4 [0, 1, 5, 6, 10] [] [0] (fun _ => ⟨[(0, .v (.slice A2 l1.length c3)), (1, .v (.int .i64 by5)), (5, .v (v47)), (6, .v (.int .i64 i52)), (10, .v (.bool (decide (i52 < (l1.length : Int)))))], [], [(0, ⟨v47, 60, 2, n48, cs49⟩)], 0⟩) (fun _ => by kernel_rfl) fun _ => ?_
      refine g_end (by kernel_rfl) ?_
      refine n_then ?_
      refine g_cond (decide (i52 < (l1.length : Int))) (by kernel_rfl) (fun hc67 => ?_) (fun hc67 => ?_)
      · replace hl55 := if_t (of_decide_eq_true hc67) hl55
        refine g_skip ?_
        refine n_then ?_
        refine g_seq ?_
        refine g_block ?_
        refine d_begin (by kernel_rfl) [] [] 19 (by kernel_rfl) ?_
        refine dx_exec (fuel := 12) [] [0, 1, 2, 6, 8, 9, 13] [0, 1, 5, 6, 13, 14, 15, 19, 21, 22, 26] [] [0] [true, true, true, false, false, false, true, false, true, true, false, false, false, true, false, false, false, false, false] ⟨[(0, .v (.slice A2 l1.length c3)), (1, .v (.int .i64 by5)), (5, .v (v47)), (6, .v (.int .i64 i52)), (13, .v (v47)), (14, .v (.slice A2 l1.length c3)), (15, .v (.int .i64 i52)), (19, .v (.int .i64 by5)), (21, .v (.slice A2 l1.length c3)), (22, .v (.int .i64 i52)), (26, .v (.int .i64 by5))], [], [(0, ⟨v47, 60, 2, n48, cs49⟩)], 0⟩ (by kernel_rfl) (fun _ _ h => h) (by kernel_rfl) (by kernel_rfl) ?_ rfl
        obtain ⟨x68, h69, hl55⟩ := bind_t hl55
        obtain ⟨b70, o71, _, hA72, rfl, hc73⟩ := SlF.at hA4 h69
        refine dx_yld (fuel := 11) (i := 3) [] [true, true, true, true, false, false, true, false, true, true, false, false, false, true, false, false, false, false, false] (by kernel_rfl) (fun _ _ h => h) (by kernel_rfl) (y_indexA (dst := some 16) (A := A2) (len := l1.length) (kk := .i64) (ii := i52) (sz := 2) (by kernel_rfl) hA72 (xs := l1) rfl h69) (by kernel_rfl) (by kernel_rfl) ?_ rfl
        refine dx_exec (fuel := 10) [] [4] [0, 1, 5, 6, 13, 17, 19, 21, 22, 26] [] [0] [true, true, true, true, true, false, true, false, true, true, false, false, false, true, false, false, false, false, false] ⟨[(0, .v (.slice A2 l1.length c3)), (1, .v (.int .i64 by5)), (5, .v (v47)), (6, .v (.int .i64 i52)), (13, .v (v47)), (17, .v (.pointer (some ⟨b70, o71 + (i52).toNat * 2, none⟩))), (19, .v (.int .i64 by5)), (21, .v (.slice A2 l1.length c3)), (22, .v (.int .i64 i52)), (26, .v (.int .i64 by5))], [], [(0, ⟨v47, 60, 2, n48, cs49⟩)], 0⟩ (by kernel_rfl) (fun _ _ h => h) (by kernel_rfl) (by kernel_rfl) ?_ rfl
        refine dx_yld (fuel := 9) (i := 5) [] [true, true, true, true, true, true, true, false, true, true, false, false, false, true, false, false, false, false, false] (by kernel_rfl) (fun _ _ h => h) (by kernel_rfl) (y_load1 (dst := some 18) (ad := ⟨b70, o71 + (i52).toNat * 2, none⟩) (sz := 1) (by kernel_rfl) (v := .int .i64 x68.1) (le45 _ _ (hc73 0 _ rfl))) (by kernel_rfl) (by kernel_rfl) ?_ rfl
        refine dx_yld (fuel := 8) (i := 10) [] [true, true, true, true, true, true, true, false, true, true, true, false, false, true, false, false, false, false, false] (by kernel_rfl) (fun _ _ h => h) (by kernel_rfl) (y_indexA (dst := some 23) (A := A2) (len := l1.length) (kk := .i64) (ii := i52) (sz := 2) (by kernel_rfl) hA72 (xs := l1) rfl h69) (by kernel_rfl) (by kernel_rfl) ?_ rfl
        refine dx_exec (fuel := 7) [] [11] [0, 1, 5, 6, 13, 18, 19, 24, 26] [] [0] [true, true, true, true, true, true, true, false, true, true, true, true, false, true, false, false, false, false, false] ⟨[(0, .v (.slice A2 l1.length c3)), (1, .v (.int .i64 by5)), (5, .v (v47)), (6, .v (.int .i64 i52)), (13, .v (v47)), (18, .v (.int .i64 x68.1)), (19, .v (.int .i64 by5)), (24, .v (.pointer (some ⟨b70, o71 + (i52).toNat * 2 + 1, none⟩))), (26, .v (.int .i64 by5))], [], [(0, ⟨v47, 60, 2, n48, cs49⟩)], 0⟩ (by kernel_rfl) (fun _ _ h => h) (by kernel_rfl) (by kernel_rfl) ?_ rfl
        refine dx_yld (fuel := 6) (i := 12) [] [true, true, true, true, true, true, true, false, true, true, true, true, true, true, false, false, false, false, false] (by kernel_rfl) (fun _ _ h => h) (by kernel_rfl) (y_load1 (dst := some 25) (ad := ⟨b70, o71 + (i52).toNat * 2 + 1, none⟩) (sz := 1) (by kernel_rfl) (v := .int .i64 x68.2) (le45 _ _ (hc73 1 _ rfl))) (by kernel_rfl) (by kernel_rfl) ?_ rfl
        obtain ⟨r74, h75, hl55⟩ := bind_t hl55
        refine dx_op (fuel := 5) (i := 7) [true, true, true, true, true, true, true, true, true, true, true, true, true, true, false, false, false, false, false] (by kernel_rfl) (by kernel_rfl) ?_ rfl
        refine o_call (dst := some 20) (g := 46) (args := [.int .i64 x68.1, .int .i64 by5]) (by kernel_rfl) (by kernel_rfl) (fun v _ => v = .int .i64 r74) (by intro w hst; exact ref10_shift_calls hst.sat x68.1 by5 h75) ?_
        rintro _ M76 le77 rfl
        refine dx_know [] le77 (by kernel_rfl) ?_
        obtain ⟨r78, h79, hl55⟩ := bind_t hl55
        refine dx_op (fuel := 4) (i := 14) [true, true, true, true, true, true, true, true, true, true, true, true, true, true, true, false, false, false, false] (by kernel_rfl) (by kernel_rfl) ?_ rfl
        refine o_call (dst := some 27) (g := 46) (args := [.int .i64 x68.2, .int .i64 by5]) (by kernel_rfl) (by kernel_rfl) (fun v _ => v = .int .i64 r78) (by intro w hst; exact ref10_shift_calls hst.sat x68.2 by5 h79) ?_
        rintro _ M80 le81 rfl
        refine dx_know [] (fun _ _ h => le81 _ _ (le77 _ _ h)) (by kernel_rfl) ?_
        refine dx_exec (fuel := 3) [] [15] [0, 1, 5, 6, 13, 28] [] [0] [true, true, true, true, true, true, true, true, true, true, true, true, true, true, true, true, false, false, false] ⟨[(0, .v (.slice A2 l1.length c3)), (1, .v (.int .i64 by5)), (5, .v (v47)), (6, .v (.int .i64 i52)), (13, .v (v47)), (28, .v (.agg #[.int .i64 r74, .int .i64 r78]))], [], [(0, ⟨v47, 60, 2, n48, cs49⟩)], 0⟩ (by kernel_rfl) (fun _ _ h => le81 _ _ (le77 _ _ h)) (by kernel_rfl) (by kernel_rfl) ?_ rfl
        refine dx_op (fuel := 2) (i := 16) [true, true, true, true, true, true, true, true, true, true, true, true, true, true, true, true, true, false, false] (by kernel_rfl) (by kernel_rfl) ?_ rfl
        refine o_step (used := true) (fun f82 => ⟨[(29, .v (.slice (some ⟨f82, 0, none⟩) 1 1)), (0, .v (.slice A2 l1.length c3)), (1, .v (.int .i64 by5)), (5, .v (v47)), (6, .v (.int .i64 i52)), (13, .v (v47)), (28, .v (.agg #[.int .i64 r74, .int .i64 r78]))], [(0, .cells f82 [.int .i64 r74, .int .i64 r78] 60)], [(0, ⟨v47, 60, 2, n48, cs49⟩)], 1⟩) rfl (by kernel_rfl) (fun _ => by kernel_rfl) (fun f82 => ?_)
        refine dx_know [] (fun _ _ h => le81 _ _ (le77 _ _ h)) (by kernel_rfl) ?_
        obtain ⟨ys83, h89, hl55⟩ := bind_t hl55
        obtain ⟨hcl85, hn86, hb87, hb88⟩ := row_apd (rep := (fl chP) M80) (sz := 2) (d := [.int .i64 r74, .int .i64 r78]) h89 (Cells.mono (RepM.mono (rep := (fl chP)) (fun _ _ h => le81 _ _ (le77 _ _ h))) hcl50) hn51 (Cells.cons (rep := (fl chP) M80) (sz := 2) (x := (r74, r78)) (c := [.int .i64 r74, .int .i64 r78]) (rfl) rfl (Cells.nil'))
        refine dx_op (fuel := 1) (i := 17) [true, true, true, true, true, true, true, true, true, true, true, true, true, true, true, true, true, true, false] (by kernel_rfl) (by kernel_rfl) ?_ rfl
        refine o_append (dst := some 30) 0 0 1 (u := v47) (row := ⟨v47, 60, 2, n48, cs49⟩) (b := f82) (cs := [.int .i64 r74, .int .i64 r78]) (bytes := 16) (by kernel_rfl) rfl rfl hb87 hb88 ?_
        intro v84
        refine dx_know [] (fun _ _ h => le81 _ _ (le77 _ _ h)) (by kernel_rfl) ?_
        refine dx_exec (fuel := 0) [] [18] [0, 1, 5, 6] [] [0] [true, true, true, true, true, true, true, true, true, true, true, true, true, true, true, true, true, true, true] ⟨[(0, .v (.slice A2 l1.length c3)), (1, .v (.int .i64 by5)), (5, .v (v84)), (6, .v (.int .i64 i52))], [], [(0, ⟨v84, 60, 2, n48 + 1, cs49 ++ [.int .i64 r74, .int .i64 r78]⟩)], 0⟩ (by kernel_rfl) (fun _ _ h => le81 _ _ (le77 _ _ h)) (by kernel_rfl) (by kernel_rfl) ?_ rfl
        refine d_end (by kernel_rfl) ?_
        refine n_block ?_
        refine n_then ?_
        refine g_region ?_
        refine g_exec 3 [0, 1, 5, 6] [] [0] (fun _ => ⟨[(0, .v (.slice A2 l1.length c3)), (1, .v (.int .i64 by5)), (5, .v (v84)), (6, .v (.int .i64 (IntKind.i64.wrap (i52 + 1))))], [], [(0, ⟨v84, 60, 2, n48 + 1, cs49 ++ [.int .i64 r74, .int .i64 r78]⟩)], 0⟩) (fun _ => by kernel_rfl) fun _ => ?_
        refine g_end (by kernel_rfl) ?_
        refine n_then ?_
        refine g_fin [0, 1, 5, 6] [] [0] ⟨[(0, .v (.slice A2 l1.length c3)), (1, .v (.int .i64 by5)), (5, .v (v84)), (6, .v (.int .i64 (IntKind.i64.wrap (i52 + 1))))], [], [(0, ⟨v84, 60, 2, n48 + 1, cs49 ++ [.int .i64 r74, .int .i64 r78]⟩)], 0⟩ (by kernel_rfl) ?_
        exact g_again q53 ⟨ys83, v84, (n48 + 1), (cs49 ++ [.int .i64 r74, .int .i64 r78]), (IntKind.i64.wrap (i52 + 1)), rfl, hcl85, hn86, hl55, (fun _ _ h => le81 _ _ (le77 _ _ (le45 _ _ h)))⟩ (Nat.lt_succ_self _)
      · replace hl55 := if_f (of_decide_eq_false hc67) hl55
        refine g_exit ?_
        refine n_then_exit ?_
        refine n_then_exit ?_
        refine n_block_exit ?_
        refine g_fin [5] [] [0] ⟨[(5, .v (v47))], [], [(0, ⟨v47, 60, 2, n48, cs49⟩)], 0⟩ (by kernel_rfl) ?_
        exact n_join ⟨ys46, v47, n48, cs49, rfl, hcl50, hn51, some_inj hl55, le45⟩
  · rintro M57 _ ⟨ys59, v60, n61, cs62, rfl, hcl63, hn64, ht54, le58⟩
    subst ht54
    refine n_then ?_
    refine g_seq ?_
    refine g_region ?_
    refine g_exec 2 [4] [] [0] (fun _ => ⟨[(4, .v (v60))], [], [(0, ⟨v60, 60, 2, n61, cs62⟩)], 0⟩) (fun _ => by kernel_rfl) fun _ => ?_
    refine g_end (by kernel_rfl) ?_
    refine n_then ?_
    refine g_ret ?_
    refine g_pubS 0 (by rfl) hcl63 hn64 ?_
    intro M92 A93 c94 le95 hv96 hA97
    subst hv96
    obtain rfl := some_inj h
    exact n_post (.slice A93 ys59.length c94) (by kernel_rfl) ⟨_, _, rfl, hA97⟩
def ref10_Rename_l1 (k0 : Nat) (l1 : List (Int × Int)) (from5 : List Int) (to9 : List Int) : Nat → (List (Int × Int)) → Int → Option ((List (Int × Int)))
  | 0, _, _ => none
  | q + 1, ys53, i59 => (if i59 < (l1.length : Int) then ((idx l1 i59)).bind fun x75 => ((ref10_One k0 x75.1 from5 to9)).bind fun r81 => ((ref10_One k0 x75.2 from5 to9)).bind fun r85 => ((apd 16 ys53 [(r81, r85)])).bind fun ys90 => ref10_Rename_l1 k0 l1 from5 to9 q ys90 (IntKind.i64.wrap (i59 + 1)) else some ys53)
def ref10_Rename (k : Nat) (l1 : List (Int × Int)) (from5 : List Int) (to9 : List Int) : Option ((List (Int × Int))) := (ref10_Rename_l1 k l1 from5 to9 k ([] : List (Int × Int)) 0).bind (fun ys66 => some ys66)
theorem ref10_Rename_calls (k : Nat) {M : Mem} {w : World} (hM : Sat M w) (l1 : List (Int × Int)) (A2 : Option Addr) (c3 : Nat) (hA4 : SlF (fl chP) 2 M A2 l1 c3) (from5 : List Int) (A6 : Option Addr) (c7 : Nat) (hA8 : SlF (fl chI) 1 M A6 from5 c7) (to9 : List Int) (A10 : Option Addr) (c11 : Nat) (hA12 : SlF (fl chI) 1 M A10 to9 c11) {r : (List (Int × Int))} (h : ref10_Rename k l1 from5 to9 = some r) : Ct Tryz.prog 22 [.slice A2 l1.length c3, .slice A6 from5.length c7, .slice A10 to9.length c11] [] w M (fun v M' => ∃ (A1 : Option Addr) (c2 : Nat), v = .slice A1 r.length c2 ∧ SlF (fl chP) 2 M' A1 r c2) := by
  unfold ref10_Rename at h
  refine enter (n := 36) Tryz.func22 rfl rfl _ (by kernel_rfl) hM ?_
  refine g_seq ?_
  refine g_region ?_
  refine g_exec 1 [0, 1, 2] [] [] (fun _ => ⟨[(0, .v (.slice A2 l1.length c3)), (1, .v (.slice A6 from5.length c7)), (2, .v (.slice A10 to9.length c11))], [], [], 0⟩) (fun _ => by kernel_rfl) fun _ => ?_
  refine g_end (by kernel_rfl) ?_
  refine n_then ?_
  refine g_seq ?_
  refine g_region ?_
  refine g_exec 1 [0, 1, 2, 7] [] [] (fun _ => ⟨[(0, .v (.slice A2 l1.length c3)), (1, .v (.slice A6 from5.length c7)), (2, .v (.slice A10 to9.length c11)), (7, .v (.slice none 0 0))], [], [], 0⟩) (fun _ => by kernel_rfl) fun _ => ?_
  refine g_end (by kernel_rfl) ?_
  refine n_then ?_
  refine g_seq ?_
  refine g_seq ?_
  refine g_region ?_
  refine g_exec 1 [0, 1, 2, 7, 8] [] [] (fun _ => ⟨[(0, .v (.slice A2 l1.length c3)), (1, .v (.slice A6 from5.length c7)), (2, .v (.slice A10 to9.length c11)), (7, .v (.slice none 0 0)), (8, .v (.int .i64 0))], [], [], 0⟩) (fun _ => by kernel_rfl) fun _ => ?_
  refine g_end (by kernel_rfl) ?_
  refine n_then ?_
  refine g_fin [0, 1, 2, 7, 8] [] [] ⟨[(0, .v (.slice A2 l1.length c3)), (1, .v (.slice A6 from5.length c7)), (2, .v (.slice A10 to9.length c11)), (7, .v (.slice none 0 0)), (8, .v (.int .i64 0))], [], [], 0⟩ (by kernel_rfl) ?_
  refine g_newrow 0 60 2 (by rfl) ?_
  obtain ⟨t63, h72, h⟩ := bind_t h
  refine g_blockJ (fun M64 s => ∃ (ys66 : List (Int × Int)) (v67 : Value) (n68 : Nat) (cs69 : List Value), s = ⟨[(7, .v (v67))], [], [(0, ⟨v67, 60, 2, n68, cs69⟩)], 0⟩ ∧ Cells ((fl chP) M64) 2 ys66 cs69 ∧ n68 = ys66.length ∧ ys66 = t63 ∧ (∀ a u, M a = some u → M64 a = some u)) ?_ ?_
  · refine g_while (ι := Nat) (fun q60 M51 s => ∃ (ys53 : List (Int × Int)) (v54 : Value) (n55 : Nat) (cs56 : List Value) (i59 : Int), s = ⟨[(0, .v (.slice A2 l1.length c3)), (1, .v (.slice A6 from5.length c7)), (2, .v (.slice A10 to9.length c11)), (7, .v (v54)), (8, .v (.int .i64 i59))], [], [(0, ⟨v54, 60, 2, n55, cs56⟩)], 0⟩ ∧ Cells ((fl chP) M51) 2 ys53 cs56 ∧ n55 = ys53.length ∧ ref10_Rename_l1 k l1 from5 to9 q60 ys53 i59 = some t63 ∧ (∀ a u, M a = some u → M51 a = some u)) (fun q60 => q60) k ⟨([] : List (Int × Int)), (.slice none 0 0), 0, [], 0, rfl, Cells.nil', rfl, h72, (fun _ _ h => h)⟩ ?_
    rintro q60 M51 _ ⟨ys53, v54, n55, cs56, i59, rfl, hcl57, hn58, hl62, le52⟩
    obtain _ | q60 := q60
    · cases hl62
    · rw [ref10_Rename_l1] at hl62
      refine g_seq ?_
      refine g_seq ?_
      refine g_region ?_
      refine g_exec 4 [0, 1, 2, 7, 8, 12] [] [0] (fun _ => ⟨[(0, .v (.slice A2 l1.length c3)), (1, .v (.slice A6 from5.length c7)), (2, .v (.slice A10 to9.length c11)), (7, .v (v54)), (8, .v (.int .i64 i59)), (12, .v (.bool (decide (i59 < (l1.length : Int)))))], [], [(0, ⟨v54, 60, 2, n55, cs56⟩)], 0⟩) (fun _ => by kernel_rfl) fun _ => ?_
      refine g_end (by kernel_rfl) ?_
      refine n_then ?_
      refine g_cond (decide (i59 < (l1.length : Int))) (by kernel_rfl) (fun hc74 => ?_) (fun hc74 => ?_)
      · replace hl62 := if_t (of_decide_eq_true hc74) hl62
        refine g_skip ?_
        refine n_then ?_
        refine g_seq ?_
        refine g_block ?_
        refine d_begin (by kernel_rfl) [] [] 21 (by kernel_rfl) ?_
        refine dx_exec (fuel := 12) [] [0, 1, 2, 6, 7, 9, 10, 14, 15] [0, 1, 2, 7, 8, 15, 16, 17, 21, 22, 24, 25, 29, 30] [] [0] [true, true, true, false, false, false, true, true, false, true, true, false, false, false, true, true, false, false, false, false, false] ⟨[(0, .v (.slice A2 l1.length c3)), (1, .v (.slice A6 from5.length c7)), (2, .v (.slice A10 to9.length c11)), (7, .v (v54)), (8, .v (.int .i64 i59)), (15, .v (v54)), (16, .v (.slice A2 l1.length c3)), (17, .v (.int .i64 i59)), (21, .v (.slice A6 from5.length c7)), (22, .v (.slice A10 to9.length c11)), (24, .v (.slice A2 l1.length c3)), (25, .v (.int .i64 i59)), (29, .v (.slice A6 from5.length c7)), (30, .v (.slice A10 to9.length c11))], [], [(0, ⟨v54, 60, 2, n55, cs56⟩)], 0⟩ (by kernel_rfl) (fun _ _ h => h) (by kernel_rfl) (by kernel_rfl) ?_ rfl
        obtain ⟨x75, h76, hl62⟩ := bind_t hl62
        obtain ⟨b77, o78, _, hA79, rfl, hc80⟩ := SlF.at hA4 h76
        refine dx_yld (fuel := 11) (i := 3) [] [true, true, true, true, false, false, true, true, false, true, true, false, false, false, true, true, false, false, false, false, false] (by kernel_rfl) (fun _ _ h => h) (by kernel_rfl) (y_indexA (dst := some 18) (A := A2) (len := l1.length) (kk := .i64) (ii := i59) (sz := 2) (by kernel_rfl) hA79 (xs := l1) rfl h76) (by kernel_rfl) (by kernel_rfl) ?_ rfl
        refine dx_exec (fuel := 10) [] [4] [0, 1, 2, 7, 8, 15, 19, 21, 22, 24, 25, 29, 30] [] [0] [true, true, true, true, true, false, true, true, false, true, true, false, false, false, true, true, false, false, false, false, false] ⟨[(0, .v (.slice A2 l1.length c3)), (1, .v (.slice A6 from5.length c7)), (2, .v (.slice A10 to9.length c11)), (7, .v (v54)), (8, .v (.int .i64 i59)), (15, .v (v54)), (19, .v (.pointer (some ⟨b77, o78 + (i59).toNat * 2, none⟩))), (21, .v (.slice A6 from5.length c7)), (22, .v (.slice A10 to9.length c11)), (24, .v (.slice A2 l1.length c3)), (25, .v (.int .i64 i59)), (29, .v (.slice A6 from5.length c7)), (30, .v (.slice A10 to9.length c11))], [], [(0, ⟨v54, 60, 2, n55, cs56⟩)], 0⟩ (by kernel_rfl) (fun _ _ h => h) (by kernel_rfl) (by kernel_rfl) ?_ rfl
        refine dx_yld (fuel := 9) (i := 5) [] [true, true, true, true, true, true, true, true, false, true, true, false, false, false, true, true, false, false, false, false, false] (by kernel_rfl) (fun _ _ h => h) (by kernel_rfl) (y_load1 (dst := some 20) (ad := ⟨b77, o78 + (i59).toNat * 2, none⟩) (sz := 1) (by kernel_rfl) (v := .int .i64 x75.1) (le52 _ _ (hc80 0 _ rfl))) (by kernel_rfl) (by kernel_rfl) ?_ rfl
        refine dx_yld (fuel := 8) (i := 11) [] [true, true, true, true, true, true, true, true, false, true, true, true, false, false, true, true, false, false, false, false, false] (by kernel_rfl) (fun _ _ h => h) (by kernel_rfl) (y_indexA (dst := some 26) (A := A2) (len := l1.length) (kk := .i64) (ii := i59) (sz := 2) (by kernel_rfl) hA79 (xs := l1) rfl h76) (by kernel_rfl) (by kernel_rfl) ?_ rfl
        refine dx_exec (fuel := 7) [] [12] [0, 1, 2, 7, 8, 15, 20, 21, 22, 27, 29, 30] [] [0] [true, true, true, true, true, true, true, true, false, true, true, true, true, false, true, true, false, false, false, false, false] ⟨[(0, .v (.slice A2 l1.length c3)), (1, .v (.slice A6 from5.length c7)), (2, .v (.slice A10 to9.length c11)), (7, .v (v54)), (8, .v (.int .i64 i59)), (15, .v (v54)), (20, .v (.int .i64 x75.1)), (21, .v (.slice A6 from5.length c7)), (22, .v (.slice A10 to9.length c11)), (27, .v (.pointer (some ⟨b77, o78 + (i59).toNat * 2 + 1, none⟩))), (29, .v (.slice A6 from5.length c7)), (30, .v (.slice A10 to9.length c11))], [], [(0, ⟨v54, 60, 2, n55, cs56⟩)], 0⟩ (by kernel_rfl) (fun _ _ h => h) (by kernel_rfl) (by kernel_rfl) ?_ rfl
        refine dx_yld (fuel := 6) (i := 13) [] [true, true, true, true, true, true, true, true, false, true, true, true, true, true, true, true, false, false, false, false, false] (by kernel_rfl) (fun _ _ h => h) (by kernel_rfl) (y_load1 (dst := some 28) (ad := ⟨b77, o78 + (i59).toNat * 2 + 1, none⟩) (sz := 1) (by kernel_rfl) (v := .int .i64 x75.2) (le52 _ _ (hc80 1 _ rfl))) (by kernel_rfl) (by kernel_rfl) ?_ rfl
        obtain ⟨r81, h82, hl62⟩ := bind_t hl62
        refine dx_op (fuel := 5) (i := 8) [true, true, true, true, true, true, true, true, true, true, true, true, true, true, true, true, false, false, false, false, false] (by kernel_rfl) (by kernel_rfl) ?_ rfl
        refine o_call (dst := some 23) (g := 49) (args := [.int .i64 x75.1, .slice A6 from5.length c7, .slice A10 to9.length c11]) (by kernel_rfl) (by kernel_rfl) (fun v _ => v = .int .i64 r81) (by intro w hst; exact ref10_One_calls k hst.sat x75.1 from5 A6 c7 (SlF.le hA8 le52) to9 A10 c11 (SlF.le hA12 le52) h82) ?_
        rintro _ M83 le84 rfl
        refine dx_know [] le84 (by kernel_rfl) ?_
        obtain ⟨r85, h86, hl62⟩ := bind_t hl62
        refine dx_op (fuel := 4) (i := 16) [true, true, true, true, true, true, true, true, true, true, true, true, true, true, true, true, true, false, false, false, false] (by kernel_rfl) (by kernel_rfl) ?_ rfl
        refine o_call (dst := some 31) (g := 49) (args := [.int .i64 x75.2, .slice A6 from5.length c7, .slice A10 to9.length c11]) (by kernel_rfl) (by kernel_rfl) (fun v _ => v = .int .i64 r85) (by intro w hst; exact ref10_One_calls k hst.sat x75.2 from5 A6 c7 (SlF.le hA8 (fun _ _ h => le84 _ _ (le52 _ _ h))) to9 A10 c11 (SlF.le hA12 (fun _ _ h => le84 _ _ (le52 _ _ h))) h86) ?_
        rintro _ M87 le88 rfl
        refine dx_know [] (fun _ _ h => le88 _ _ (le84 _ _ h)) (by kernel_rfl) ?_
        refine dx_exec (fuel := 3) [] [17] [0, 1, 2, 7, 8, 15, 32] [] [0] [true, true, true, true, true, true, true, true, true, true, true, true, true, true, true, true, true, true, false, false, false] ⟨[(0, .v (.slice A2 l1.length c3)), (1, .v (.slice A6 from5.length c7)), (2, .v (.slice A10 to9.length c11)), (7, .v (v54)), (8, .v (.int .i64 i59)), (15, .v (v54)), (32, .v (.agg #[.int .i64 r81, .int .i64 r85]))], [], [(0, ⟨v54, 60, 2, n55, cs56⟩)], 0⟩ (by kernel_rfl) (fun _ _ h => le88 _ _ (le84 _ _ h)) (by kernel_rfl) (by kernel_rfl) ?_ rfl
        refine dx_op (fuel := 2) (i := 18) [true, true, true, true, true, true, true, true, true, true, true, true, true, true, true, true, true, true, true, false, false] (by kernel_rfl) (by kernel_rfl) ?_ rfl
        refine o_step (used := true) (fun f89 => ⟨[(33, .v (.slice (some ⟨f89, 0, none⟩) 1 1)), (0, .v (.slice A2 l1.length c3)), (1, .v (.slice A6 from5.length c7)), (2, .v (.slice A10 to9.length c11)), (7, .v (v54)), (8, .v (.int .i64 i59)), (15, .v (v54)), (32, .v (.agg #[.int .i64 r81, .int .i64 r85]))], [(0, .cells f89 [.int .i64 r81, .int .i64 r85] 60)], [(0, ⟨v54, 60, 2, n55, cs56⟩)], 1⟩) rfl (by kernel_rfl) (fun _ => by kernel_rfl) (fun f89 => ?_)
        refine dx_know [] (fun _ _ h => le88 _ _ (le84 _ _ h)) (by kernel_rfl) ?_
        obtain ⟨ys90, h96, hl62⟩ := bind_t hl62
        obtain ⟨hcl92, hn93, hb94, hb95⟩ := row_apd (rep := (fl chP) M87) (sz := 2) (d := [.int .i64 r81, .int .i64 r85]) h96 (Cells.mono (RepM.mono (rep := (fl chP)) (fun _ _ h => le88 _ _ (le84 _ _ h))) hcl57) hn58 (Cells.cons (rep := (fl chP) M87) (sz := 2) (x := (r81, r85)) (c := [.int .i64 r81, .int .i64 r85]) (rfl) rfl (Cells.nil'))
        refine dx_op (fuel := 1) (i := 19) [true, true, true, true, true, true, true, true, true, true, true, true, true, true, true, true, true, true, true, true, false] (by kernel_rfl) (by kernel_rfl) ?_ rfl
        refine o_append (dst := some 34) 0 0 1 (u := v54) (row := ⟨v54, 60, 2, n55, cs56⟩) (b := f89) (cs := [.int .i64 r81, .int .i64 r85]) (bytes := 16) (by kernel_rfl) rfl rfl hb94 hb95 ?_
        intro v91
        refine dx_know [] (fun _ _ h => le88 _ _ (le84 _ _ h)) (by kernel_rfl) ?_
        refine dx_exec (fuel := 0) [] [20] [0, 1, 2, 7, 8] [] [0] [true, true, true, true, true, true, true, true, true, true, true, true, true, true, true, true, true, true, true, true, true] ⟨[(0, .v (.slice A2 l1.length c3)), (1, .v (.slice A6 from5.length c7)), (2, .v (.slice A10 to9.length c11)), (7, .v (v91)), (8, .v (.int .i64 i59))], [], [(0, ⟨v91, 60, 2, n55 + 1, cs56 ++ [.int .i64 r81, .int .i64 r85]⟩)], 0⟩ (by kernel_rfl) (fun _ _ h => le88 _ _ (le84 _ _ h)) (by kernel_rfl) (by kernel_rfl) ?_ rfl
        refine d_end (by kernel_rfl) ?_
        refine n_block ?_
        refine n_then ?_
        refine g_region ?_
        refine g_exec 3 [0, 1, 2, 7, 8] [] [0] (fun _ => ⟨[(0, .v (.slice A2 l1.length c3)), (1, .v (.slice A6 from5.length c7)), (2, .v (.slice A10 to9.length c11)), (7, .v (v91)), (8, .v (.int .i64 (IntKind.i64.wrap (i59 + 1))))], [], [(0, ⟨v91, 60, 2, n55 + 1, cs56 ++ [.int .i64 r81, .int .i64 r85]⟩)], 0⟩) (fun _ => by kernel_rfl) fun _ => ?_
        refine g_end (by kernel_rfl) ?_
        refine n_then ?_
        refine g_fin [0, 1, 2, 7, 8] [] [0] ⟨[(0, .v (.slice A2 l1.length c3)), (1, .v (.slice A6 from5.length c7)), (2, .v (.slice A10 to9.length c11)), (7, .v (v91)), (8, .v (.int .i64 (IntKind.i64.wrap (i59 + 1))))], [], [(0, ⟨v91, 60, 2, n55 + 1, cs56 ++ [.int .i64 r81, .int .i64 r85]⟩)], 0⟩ (by kernel_rfl) ?_
        exact g_again q60 ⟨ys90, v91, (n55 + 1), (cs56 ++ [.int .i64 r81, .int .i64 r85]), (IntKind.i64.wrap (i59 + 1)), rfl, hcl92, hn93, hl62, (fun _ _ h => le88 _ _ (le84 _ _ (le52 _ _ h)))⟩ (Nat.lt_succ_self _)
      · replace hl62 := if_f (of_decide_eq_false hc74) hl62
        refine g_exit ?_
        refine n_then_exit ?_
        refine n_then_exit ?_
        refine n_block_exit ?_
        refine g_fin [7] [] [0] ⟨[(7, .v (v54))], [], [(0, ⟨v54, 60, 2, n55, cs56⟩)], 0⟩ (by kernel_rfl) ?_
        exact n_join ⟨ys53, v54, n55, cs56, rfl, hcl57, hn58, some_inj hl62, le52⟩
  · rintro M64 _ ⟨ys66, v67, n68, cs69, rfl, hcl70, hn71, ht61, le65⟩
    subst ht61
    refine n_then ?_
    refine g_seq ?_
    refine g_region ?_
    refine g_exec 2 [6] [] [0] (fun _ => ⟨[(6, .v (v67))], [], [(0, ⟨v67, 60, 2, n68, cs69⟩)], 0⟩) (fun _ => by kernel_rfl) fun _ => ?_
    refine g_end (by kernel_rfl) ?_
    refine n_then ?_
    refine g_ret ?_
    refine g_pubS 0 (by rfl) hcl70 hn71 ?_
    intro M99 A100 c101 le102 hv103 hA104
    subst hv103
    obtain rfl := some_inj h
    exact n_post (.slice A100 ys66.length c101) (by kernel_rfl) ⟨_, _, rfl, hA104⟩
def ref10_Norm_l2 (out10 : List (Int × Int)) (x29 : Int × Int) : Nat → Int → Option (Int)
  | 0, _ => none
  | q + 1, at40 => (if at40 < (out10.length : Int) then ((idx out10 at40)).bind fun x50 => (if x50.1 < x29.1 then ref10_Norm_l2 out10 x29 q (IntKind.i64.wrap (at40 + 1)) else (if x50.1 = x29.1 then (if x50.2 < x29.2 then ref10_Norm_l2 out10 x29 q (IntKind.i64.wrap (at40 + 1)) else some at40) else some at40)) else some at40)
def ref10_Norm_l1 (k0 : Nat) (l1 : List (Int × Int)) : Nat → (List (Int × Int)) → Int → Option ((List (Int × Int)))
  | 0, _, _ => none
  | q + 1, out10, i14 => (if i14 < (l1.length : Int) then ((idx l1 i14)).bind fun x29 => (ref10_Norm_l2 out10 x29 k0 0).bind (fun at47 => (if x29.1 = x29.2 then ref10_Norm_l1 k0 l1 q out10 (IntKind.i64.wrap (i14 + 1)) else (if at47 < (out10.length : Int) then ((idx out10 at47)).bind fun x64 => (if ((x64.1 == x29.1) && ((x64.2 == x29.2) && true)) = true then ref10_Norm_l1 k0 l1 q out10 (IntKind.i64.wrap (i14 + 1)) else ((slc out10 0 at47)).bind fun s72 => ((slc out10 at47 (out10.length : Int))).bind fun s78 => ((apd 16 ([] : List (Int × Int)) s72)).bind fun ys84 => ((apd 16 ys84 [x29])).bind fun ys93 => ((apd 16 ys93 s78)).bind fun ys100 => ref10_Norm_l1 k0 l1 q ys100 (IntKind.i64.wrap (i14 + 1))) else ((slc out10 0 at47)).bind fun s146 => ((slc out10 at47 (out10.length : Int))).bind fun s152 => ((apd 16 ([] : List (Int × Int)) s146)).bind fun ys158 => ((apd 16 ys158 [x29])).bind fun ys167 => ((apd 16 ys167 s152)).bind fun ys174 => ref10_Norm_l1 k0 l1 q ys174 (IntKind.i64.wrap (i14 + 1))))) else some out10)
def ref10_Norm (k : Nat) (l1 : List (Int × Int)) : Option ((List (Int × Int))) := (ref10_Norm_l1 k l1 k [] 0).bind (fun out21 => some out21)
theorem ref10_Norm_calls (k : Nat) {M : Mem} {w : World} (hM : Sat M w) (l1 : List (Int × Int)) (A2 : Option Addr) (c3 : Nat) (hA4 : SlF (fl chP) 2 M A2 l1 c3) {r : (List (Int × Int))} (h : ref10_Norm k l1 = some r) : Ct Tryz.prog 18 [.slice A2 l1.length c3] [] w M (fun v M' => ∃ (A1 : Option Addr) (c2 : Nat), v = .slice A1 r.length c2 ∧ SlF (fl chP) 2 M' A1 r c2) := by
  unfold ref10_Norm at h
  refine enter (n := 84) Tryz.func18 rfl rfl _ (by kernel_rfl) hM ?_
  refine g_seq ?_
  refine g_region ?_
  refine g_exec 1 [0] [] [] (fun _ => ⟨[(0, .v (.slice A2 l1.length c3))], [], [], 0⟩) (fun _ => by kernel_rfl) fun _ => ?_
  refine g_end (by kernel_rfl) ?_
  refine n_then ?_
  refine g_seq ?_
  refine g_region ?_
  refine g_exec 1 [0, 3] [] [] (fun _ => ⟨[(0, .v (.slice A2 l1.length c3)), (3, .v (.slice none 0 0))], [], [], 0⟩) (fun _ => by kernel_rfl) fun _ => ?_
  refine g_end (by kernel_rfl) ?_
  refine n_then ?_
  refine g_seq ?_
  refine g_seq ?_
  refine g_region ?_
  refine g_exec 1 [0, 3, 4] [] [] (fun _ => ⟨[(0, .v (.slice A2 l1.length c3)), (3, .v (.slice none 0 0)), (4, .v (.int .i64 0))], [], [], 0⟩) (fun _ => by kernel_rfl) fun _ => ?_
  refine g_end (by kernel_rfl) ?_
  refine n_then ?_
  refine g_fin [0, 3, 4] [] [] ⟨[(0, .v (.slice A2 l1.length c3)), (3, .v (.slice none 0 0)), (4, .v (.int .i64 0))], [], [], 0⟩ (by kernel_rfl) ?_
  obtain ⟨t18, h25, h⟩ := bind_t h
  refine g_blockJ (fun M19 s => ∃ (out21 : List (Int × Int)) (A22 : Option Addr) (c23 : Nat), s = ⟨[(3, .v (.slice A22 out21.length c23))], [], [], 0⟩ ∧ SlF (fl chP) 2 M19 A22 out21 c23 ∧ out21 = t18 ∧ (∀ a u, M a = some u → M19 a = some u)) ?_ ?_
  · refine g_while (ι := Nat) (fun q15 M8 s => ∃ (out10 : List (Int × Int)) (A11 : Option Addr) (c12 : Nat) (i14 : Int), s = ⟨[(0, .v (.slice A2 l1.length c3)), (3, .v (.slice A11 out10.length c12)), (4, .v (.int .i64 i14))], [], [], 0⟩ ∧ SlF (fl chP) 2 M8 A11 out10 c12 ∧ ref10_Norm_l1 k l1 q15 out10 i14 = some t18 ∧ (∀ a u, M a = some u → M8 a = some u)) (fun q15 => q15) k ⟨[], none, 0, 0, rfl, SlF.nil, h25, (fun _ _ h => h)⟩ ?_
    rintro q15 M8 _ ⟨out10, A11, c12, i14, rfl, hA13, hl17, le9⟩
    obtain _ | q15 := q15
    · cases hl17
    · rw [ref10_Norm_l1] at hl17
      refine g_seq ?_
      refine g_seq ?_
      refine g_region ?_
      refine g_exec 4 [0, 3, 4, 10] [] [] (fun _ => ⟨[(0, .v (.slice A2 l1.length c3)), (3, .v (.slice A11 out10.length c12)), (4, .v (.int .i64 i14)), (10, .v (.bool (decide (i14 < (l1.length : Int)))))], [], [], 0⟩) (fun _ => by kernel_rfl) fun _ => ?_
      refine g_end (by kernel_rfl) ?_
      refine n_then ?_
      refine g_cond (decide (i14 < (l1.length : Int))) (by kernel_rfl) (fun hc27 => ?_) (fun hc27 => ?_)
      · replace hl17 := if_t (of_decide_eq_true hc27) hl17
        refine g_skip ?_
        refine n_then ?_
        refine g_seq ?_
        refine g_block ?_
        refine g_seq ?_
        refine g_region ?_
        refine g_exec 2 [0, 3, 4, 13, 14] [] [] (fun _ => ⟨[(0, .v (.slice A2 l1.length c3)), (3, .v (.slice A11 out10.length c12)), (4, .v (.int .i64 i14)), (13, .v (.slice A2 l1.length c3)), (14, .v (.int .i64 i14))], [], [], 0⟩) (fun _ => by kernel_rfl) fun _ => ?_
        obtain ⟨x29, h30, hl17⟩ := bind_t hl17
        obtain ⟨b31, o32, _, hA33, rfl, hc34⟩ := SlF.at hA4 h30
        refine g_yld (y_indexA (dst := some 15) (A := A2) (len := l1.length) (kk := .i64) (ii := i14) (sz := 2) (by kernel_rfl) hA33 (xs := l1) rfl h30) ?_
        refine g_yld (y_loads (dst := some 16) (b := b31) (o := o32 + (i14).toNat * 2) (sz := 2) (by kernel_rfl) (cs := [.int .i64 x29.1, .int .i64 x29.2]) rfl (fun j v hj => le9 _ _ (hc34 j v hj))) ?_
        refine g_exec 2 [0, 3, 4, 5] [0] [] (fun f36 => ⟨[(0, .v (.slice A2 l1.length c3)), (3, .v (.slice A11 out10.length c12)), (4, .v (.int .i64 i14)), (5, .l 0 (f36 4) 0)], [(0, .cells (f36 4) [.int .i64 x29.1, .int .i64 x29.2] 60)], [], 1⟩) (fun _ => by kernel_rfl) fun f36 => ?_
        refine g_end (by kernel_rfl) ?_
        refine n_then ?_
        refine g_seq ?_
        refine g_region ?_
        refine g_exec 1 [0, 3, 4, 5, 6] [0] [] (fun _ => ⟨[(0, .v (.slice A2 l1.length c3)), (3, .v (.slice A11 out10.length c12)), (4, .v (.int .i64 i14)), (5, .l 0 (f36 4) 0), (6, .v (.int .i64 0))], [(0, .cells (f36 4) [.int .i64 x29.1, .int .i64 x29.2] 60)], [], 1⟩) (fun _ => by kernel_rfl) fun _ => ?_
        refine g_end (by kernel_rfl) ?_
        refine n_then ?_
        refine g_seq ?_
        refine g_fin [0, 3, 4, 5, 6] [0] [] ⟨[(0, .v (.slice A2 l1.length c3)), (3, .v (.slice A11 out10.length c12)), (4, .v (.int .i64 i14)), (5, .l 0 (f36 4) 0), (6, .v (.int .i64 0))], [(0, .cells (f36 4) [.int .i64 x29.1, .int .i64 x29.2] 60)], [], 1⟩ (by kernel_rfl) ?_
        obtain ⟨t44, h48, hl17⟩ := bind_t hl17
        refine g_blockJ (fun M45 s => ∃ (at47 : Int), s = ⟨[(0, .v (.slice A2 l1.length c3)), (3, .v (.slice A11 out10.length c12)), (4, .v (.int .i64 i14)), (5, .l 0 (f36 4) 0), (6, .v (.int .i64 at47))], [(0, .cells (f36 4) [.int .i64 x29.1, .int .i64 x29.2] 60)], [], 1⟩ ∧ at47 = t44 ∧ (∀ a u, M8 a = some u → M45 a = some u)) ?_ ?_
        · refine g_while (ι := Nat) (fun q41 M38 s => ∃ (at40 : Int), s = ⟨[(0, .v (.slice A2 l1.length c3)), (3, .v (.slice A11 out10.length c12)), (4, .v (.int .i64 i14)), (5, .l 0 (f36 4) 0), (6, .v (.int .i64 at40))], [(0, .cells (f36 4) [.int .i64 x29.1, .int .i64 x29.2] 60)], [], 1⟩ ∧ ref10_Norm_l2 out10 x29 q41 at40 = some t44 ∧ (∀ a u, M8 a = some u → M38 a = some u)) (fun q41 => q41) k ⟨0, rfl, h48, (fun _ _ h => h)⟩ ?_
          rintro q41 M38 _ ⟨at40, rfl, hl43, le39⟩
          obtain _ | q41 := q41
          · cases hl43
          · rw [ref10_Norm_l2] at hl43
            refine g_seq ?_
            refine g_seq ?_
            refine d_begin (by kernel_rfl) [0] [] 34 (by kernel_rfl) ?_
            refine dx_exec (fuel := 29) [0] [0, 1, 2, 3, 4] [0, 3, 4, 5, 6, 21] [0] [] [true, true, true, true, true, false, false, false, false, false, false, false, false, false, false, false, false, false, false, false, false, false, false, false, false, false, false, false, false, false, false, false, false, false] ⟨[(0, .v (.slice A2 l1.length c3)), (3, .v (.slice A11 out10.length c12)), (4, .v (.int .i64 i14)), (5, .l 0 (f36 4) 0), (6, .v (.int .i64 at40)), (21, .v (.bool (decide (at40 < (out10.length : Int)))))], [(0, .cells (f36 4) [.int .i64 x29.1, .int .i64 x29.2] 60)], [], 1⟩ (by kernel_rfl) (fun _ _ h => h) (by kernel_rfl) (by kernel_rfl) ?_ rfl
            refine g_bool 21 (decide (at40 < (out10.length : Int))) (by kernel_rfl) (fun hc49 => ?_) (fun hc49 => ?_)
            · replace hl43 := if_t (of_decide_eq_true hc49) hl43
              refine dx_exec (fuel := 25) [0] [5, 6, 10, 11] [0, 3, 4, 5, 6, 21, 22, 23, 28] [0] [] [true, true, true, true, true, true, true, false, false, false, true, true, false, false, false, false, false, false, false, false, false, false, false, false, false, false, false, false, false, false, false, false, false, false] ⟨[(0, .v (.slice A2 l1.length c3)), (3, .v (.slice A11 out10.length c12)), (4, .v (.int .i64 i14)), (5, .l 0 (f36 4) 0), (6, .v (.int .i64 at40)), (21, .v (.bool true)), (22, .v (.slice A11 out10.length c12)), (23, .v (.int .i64 at40)), (28, .v (.int .i64 x29.1))], [(0, .cells (f36 4) [.int .i64 x29.1, .int .i64 x29.2] 60)], [], 1⟩ (by kernel_rfl) (fun _ _ h => h) (by kernel_rfl) (by kernel_rfl) ?_ rfl
              obtain ⟨x50, h51, hl43⟩ := bind_t hl43
              obtain ⟨b52, o53, _, hA54, rfl, hc55⟩ := SlF.at hA13 h51
              refine dx_yld (fuel := 24) (i := 7) [0] [true, true, true, true, true, true, true, true, false, false, true, true, false, false, false, false, false, false, false, false, false, false, false, false, false, false, false, false, false, false, false, false, false, false] (by kernel_rfl) (fun _ _ h => h) (by kernel_rfl) (y_indexA (dst := some 24) (A := A11) (len := out10.length) (kk := .i64) (ii := at40) (sz := 2) (by kernel_rfl) hA54 (xs := out10) rfl h51) (by kernel_rfl) (by kernel_rfl) ?_ rfl
              refine dx_exec (fuel := 23) [0] [8] [0, 3, 4, 5, 6, 21, 25, 28] [0] [] [true, true, true, true, true, true, true, true, true, false, true, true, false, false, false, false, false, false, false, false, false, false, false, false, false, false, false, false, false, false, false, false, false, false] ⟨[(0, .v (.slice A2 l1.length c3)), (3, .v (.slice A11 out10.length c12)), (4, .v (.int .i64 i14)), (5, .l 0 (f36 4) 0), (6, .v (.int .i64 at40)), (21, .v (.bool true)), (25, .v (.pointer (some ⟨b52, o53 + (at40).toNat * 2, none⟩))), (28, .v (.int .i64 x29.1))], [(0, .cells (f36 4) [.int .i64 x29.1, .int .i64 x29.2] 60)], [], 1⟩ (by kernel_rfl) (fun _ _ h => h) (by kernel_rfl) (by kernel_rfl) ?_ rfl
              refine dx_yld (fuel := 22) (i := 9) [0] [true, true, true, true, true, true, true, true, true, true, true, true, false, false, false, false, false, false, false, false, false, false, false, false, false, false, false, false, false, false, false, false, false, false] (by kernel_rfl) (fun _ _ h => h) (by kernel_rfl) (y_load1 (dst := some 26) (ad := ⟨b52, o53 + (at40).toNat * 2, none⟩) (sz := 1) (by kernel_rfl) (v := .int .i64 x50.1) (le39 _ _ (hc55 0 _ rfl))) (by kernel_rfl) (by kernel_rfl) ?_ rfl
              refine dx_exec (fuel := 20) [0] [12, 13] [0, 3, 4, 5, 6, 21, 30] [0] [] [true, true, true, true, true, true, true, true, true, true, true, true, true, true, false, false, false, false, false, false, false, false, false, false, false, false, false, false, false, false, false, false, false, false] ⟨[(0, .v (.slice A2 l1.length c3)), (3, .v (.slice A11 out10.length c12)), (4, .v (.int .i64 i14)), (5, .l 0 (f36 4) 0), (6, .v (.int .i64 at40)), (21, .v (.bool true)), (30, .v (.bool (decide (x50.1 < x29.1))))], [(0, .cells (f36 4) [.int .i64 x29.1, .int .i64 x29.2] 60)], [], 1⟩ (by kernel_rfl) (fun _ _ h => h) (by kernel_rfl) (by kernel_rfl) ?_ rfl
              refine g_bool 30 (decide (x50.1 < x29.1)) (by kernel_rfl) (fun hc56 => ?_) (fun hc56 => ?_)
              · replace hl43 := if_t (of_decide_eq_true hc56) hl43
                refine dx_exec (fuel := 0) [0] [14, 15, 16, 17, 18, 19, 20, 21, 22, 23, 24, 25, 26, 27, 28, 29, 30, 31, 32, 33] [0, 3, 4, 5, 6, 50] [0] [] [true, true, true, true, true, true, true, true, true, true, true, true, true, true, true, true, true, true, true, true, true, true, true, true, true, true, true, true, true, true, true, true, true, true] ⟨[(0, .v (.slice A2 l1.length c3)), (3, .v (.slice A11 out10.length c12)), (4, .v (.int .i64 i14)), (5, .l 0 (f36 4) 0), (6, .v (.int .i64 at40)), (50, .v (.bool true))], [(0, .cells (f36 4) [.int .i64 x29.1, .int .i64 x29.2] 60)], [], 1⟩ (by kernel_rfl) (fun _ _ h => h) (by kernel_rfl) (by kernel_rfl) ?_ rfl
                refine d_end (by kernel_rfl) ?_
                refine n_then ?_
                refine g_cond true (by kernel_rfl) (fun hc => ?_) (fun hc => ?_)
                · refine g_skip ?_
                  refine n_then ?_
                  refine g_block ?_
                  refine g_region ?_
                  refine g_exec 3 [0, 3, 4, 5, 6] [0] [] (fun _ => ⟨[(0, .v (.slice A2 l1.length c3)), (3, .v (.slice A11 out10.length c12)), (4, .v (.int .i64 i14)), (5, .l 0 (f36 4) 0), (6, .v (.int .i64 (IntKind.i64.wrap (at40 + 1))))], [(0, .cells (f36 4) [.int .i64 x29.1, .int .i64 x29.2] 60)], [], 1⟩) (fun _ => by kernel_rfl) fun _ => ?_
                  refine g_end (by kernel_rfl) ?_
                  refine n_block ?_
                  refine n_then ?_
                  refine g_fin [0, 3, 4, 5, 6] [0] [] ⟨[(0, .v (.slice A2 l1.length c3)), (3, .v (.slice A11 out10.length c12)), (4, .v (.int .i64 i14)), (5, .l 0 (f36 4) 0), (6, .v (.int .i64 (IntKind.i64.wrap (at40 + 1))))], [(0, .cells (f36 4) [.int .i64 x29.1, .int .i64 x29.2] 60)], [], 1⟩ (by kernel_rfl) ?_
                  exact g_again q41 ⟨(IntKind.i64.wrap (at40 + 1)), rfl, hl43, le39⟩ (Nat.lt_succ_self _)
                · cases hc
              · replace hl43 := if_f (of_decide_eq_false hc56) hl43
                refine dx_exec (fuel := 16) [0] [14, 15, 19, 20] [0, 3, 4, 5, 6, 21, 30, 31, 32, 37] [0] [] [true, true, true, true, true, true, true, true, true, true, true, true, true, true, true, true, false, false, false, true, true, false, false, false, false, false, false, false, false, false, false, false, false, false] ⟨[(0, .v (.slice A2 l1.length c3)), (3, .v (.slice A11 out10.length c12)), (4, .v (.int .i64 i14)), (5, .l 0 (f36 4) 0), (6, .v (.int .i64 at40)), (21, .v (.bool true)), (30, .v (.bool false)), (31, .v (.slice A11 out10.length c12)), (32, .v (.int .i64 at40)), (37, .v (.int .i64 x29.1))], [(0, .cells (f36 4) [.int .i64 x29.1, .int .i64 x29.2] 60)], [], 1⟩ (by kernel_rfl) (fun _ _ h => h) (by kernel_rfl) (by kernel_rfl) ?_ rfl
                refine dx_yld (fuel := 15) (i := 16) [0] [true, true, true, true, true, true, true, true, true, true, true, true, true, true, true, true, true, false, false, true, true, false, false, false, false, false, false, false, false, false, false, false, false, false] (by kernel_rfl) (fun _ _ h => h) (by kernel_rfl) (y_indexA (dst := some 33) (A := A11) (len := out10.length) (kk := .i64) (ii := at40) (sz := 2) (by kernel_rfl) hA54 (xs := out10) rfl h51) (by kernel_rfl) (by kernel_rfl) ?_ rfl
                refine dx_exec (fuel := 14) [0] [17] [0, 3, 4, 5, 6, 21, 30, 34, 37] [0] [] [true, true, true, true, true, true, true, true, true, true, true, true, true, true, true, true, true, true, false, true, true, false, false, false, false, false, false, false, false, false, false, false, false, false] ⟨[(0, .v (.slice A2 l1.length c3)), (3, .v (.slice A11 out10.length c12)), (4, .v (.int .i64 i14)), (5, .l 0 (f36 4) 0), (6, .v (.int .i64 at40)), (21, .v (.bool true)), (30, .v (.bool false)), (34, .v (.pointer (some ⟨b52, o53 + (at40).toNat * 2, none⟩))), (37, .v (.int .i64 x29.1))], [(0, .cells (f36 4) [.int .i64 x29.1, .int .i64 x29.2] 60)], [], 1⟩ (by kernel_rfl) (fun _ _ h => h) (by kernel_rfl) (by kernel_rfl) ?_ rfl
                refine dx_yld (fuel := 13) (i := 18) [0] [true, true, true, true, true, true, true, true, true, true, true, true, true, true, true, true, true, true, true, true, true, false, false, false, false, false, false, false, false, false, false, false, false, false] (by kernel_rfl) (fun _ _ h => h) (by kernel_rfl) (y_load1 (dst := some 35) (ad := ⟨b52, o53 + (at40).toNat * 2, none⟩) (sz := 1) (by kernel_rfl) (v := .int .i64 x50.1) (le39 _ _ (hc55 0 _ rfl))) (by kernel_rfl) (by kernel_rfl) ?_ rfl
                refine dx_exec (fuel := 11) [0] [21, 22] [0, 3, 4, 5, 6, 21, 30, 39] [0] [] [true, true, true, true, true, true, true, true, true, true, true, true, true, true, true, true, true, true, true, true, true, true, true, false, false, false, false, false, false, false, false, false, false, false] ⟨[(0, .v (.slice A2 l1.length c3)), (3, .v (.slice A11 out10.length c12)), (4, .v (.int .i64 i14)), (5, .l 0 (f36 4) 0), (6, .v (.int .i64 at40)), (21, .v (.bool true)), (30, .v (.bool false)), (39, .v (.bool (x50.1 == x29.1)))], [(0, .cells (f36 4) [.int .i64 x29.1, .int .i64 x29.2] 60)], [], 1⟩ (by kernel_rfl) (fun _ _ h => h) (by kernel_rfl) (by kernel_rfl) ?_ rfl
                refine g_bool 39 ((x50.1 == x29.1)) (by kernel_rfl) (fun hc58 => ?_) (fun hc58 => ?_)
                · replace hl43 := if_t (eq_of_beq hc58) hl43
                  refine dx_exec (fuel := 7) [0] [23, 24, 28, 29] [0, 3, 4, 5, 6, 21, 30, 39, 40, 41, 46] [0] [] [true, true, true, true, true, true, true, true, true, true, true, true, true, true, true, true, true, true, true, true, true, true, true, true, true, false, false, false, true, true, false, false, false, false] ⟨[(0, .v (.slice A2 l1.length c3)), (3, .v (.slice A11 out10.length c12)), (4, .v (.int .i64 i14)), (5, .l 0 (f36 4) 0), (6, .v (.int .i64 at40)), (21, .v (.bool true)), (30, .v (.bool false)), (39, .v (.bool true)), (40, .v (.slice A11 out10.length c12)), (41, .v (.int .i64 at40)), (46, .v (.int .i64 x29.2))], [(0, .cells (f36 4) [.int .i64 x29.1, .int .i64 x29.2] 60)], [], 1⟩ (by kernel_rfl) (fun _ _ h => h) (by kernel_rfl) (by kernel_rfl) ?_ rfl
                  refine dx_yld (fuel := 6) (i := 25) [0] [true, true, true, true, true, true, true, true, true, true, true, true, true, true, true, true, true, true, true, true, true, true, true, true, true, true, false, false, true, true, false, false, false, false] (by kernel_rfl) (fun _ _ h => h) (by kernel_rfl) (y_indexA (dst := some 42) (A := A11) (len := out10.length) (kk := .i64) (ii := at40) (sz := 2) (by kernel_rfl) hA54 (xs := out10) rfl h51) (by kernel_rfl) (by kernel_rfl) ?_ rfl
                  refine dx_exec (fuel := 5) [0] [26] [0, 3, 4, 5, 6, 21, 30, 39, 43, 46] [0] [] [true, true, true, true, true, true, true, true, true, true, true, true, true, true, true, true, true, true, true, true, true, true, true, true, true, true, true, false, true, true, false, false, false, false] ⟨[(0, .v (.slice A2 l1.length c3)), (3, .v (.slice A11 out10.length c12)), (4, .v (.int .i64 i14)), (5, .l 0 (f36 4) 0), (6, .v (.int .i64 at40)), (21, .v (.bool true)), (30, .v (.bool false)), (39, .v (.bool true)), (43, .v (.pointer (some ⟨b52, o53 + (at40).toNat * 2 + 1, none⟩))), (46, .v (.int .i64 x29.2))], [(0, .cells (f36 4) [.int .i64 x29.1, .int .i64 x29.2] 60)], [], 1⟩ (by kernel_rfl) (fun _ _ h => h) (by kernel_rfl) (by kernel_rfl) ?_ rfl
                  refine dx_yld (fuel := 4) (i := 27) [0] [true, true, true, true, true, true, true, true, true, true, true, true, true, true, true, true, true, true, true, true, true, true, true, true, true, true, true, true, true, true, false, false, false, false] (by kernel_rfl) (fun _ _ h => h) (by kernel_rfl) (y_load1 (dst := some 44) (ad := ⟨b52, o53 + (at40).toNat * 2 + 1, none⟩) (sz := 1) (by kernel_rfl) (v := .int .i64 x50.2) (le39 _ _ (hc55 1 _ rfl))) (by kernel_rfl) (by kernel_rfl) ?_ rfl
                  refine dx_exec (fuel := 0) [0] [30, 31, 32, 33] [0, 3, 4, 5, 6, 50] [0] [] [true, true, true, true, true, true, true, true, true, true, true, true, true, true, true, true, true, true, true, true, true, true, true, true, true, true, true, true, true, true, true, true, true, true] ⟨[(0, .v (.slice A2 l1.length c3)), (3, .v (.slice A11 out10.length c12)), (4, .v (.int .i64 i14)), (5, .l 0 (f36 4) 0), (6, .v (.int .i64 at40)), (50, .v (.bool (decide (x50.2 < x29.2))))], [(0, .cells (f36 4) [.int .i64 x29.1, .int .i64 x29.2] 60)], [], 1⟩ (by kernel_rfl) (fun _ _ h => h) (by kernel_rfl) (by kernel_rfl) ?_ rfl
                  refine d_end (by kernel_rfl) ?_
                  refine n_then ?_
                  refine g_cond (decide (x50.2 < x29.2)) (by kernel_rfl) (fun hc59 => ?_) (fun hc59 => ?_)
                  · replace hl43 := if_t (of_decide_eq_true hc59) hl43
                    refine g_skip ?_
                    refine n_then ?_
                    refine g_block ?_
                    refine g_region ?_
                    refine g_exec 3 [0, 3, 4, 5, 6] [0] [] (fun _ => ⟨[(0, .v (.slice A2 l1.length c3)), (3, .v (.slice A11 out10.length c12)), (4, .v (.int .i64 i14)), (5, .l 0 (f36 4) 0), (6, .v (.int .i64 (IntKind.i64.wrap (at40 + 1))))], [(0, .cells (f36 4) [.int .i64 x29.1, .int .i64 x29.2] 60)], [], 1⟩) (fun _ => by kernel_rfl) fun _ => ?_
                    refine g_end (by kernel_rfl) ?_
                    refine n_block ?_
                    refine n_then ?_
                    refine g_fin [0, 3, 4, 5, 6] [0] [] ⟨[(0, .v (.slice A2 l1.length c3)), (3, .v (.slice A11 out10.length c12)), (4, .v (.int .i64 i14)), (5, .l 0 (f36 4) 0), (6, .v (.int .i64 (IntKind.i64.wrap (at40 + 1))))], [(0, .cells (f36 4) [.int .i64 x29.1, .int .i64 x29.2] 60)], [], 1⟩ (by kernel_rfl) ?_
                    exact g_again q41 ⟨(IntKind.i64.wrap (at40 + 1)), rfl, hl43, le39⟩ (Nat.lt_succ_self _)
                  · replace hl43 := if_f (of_decide_eq_false hc59) hl43
                    refine g_exit ?_
                    refine n_then_exit ?_
                    refine n_then_exit ?_
                    refine n_block_exit ?_
                    refine g_fin [0, 3, 4, 5, 6] [0] [] ⟨[(0, .v (.slice A2 l1.length c3)), (3, .v (.slice A11 out10.length c12)), (4, .v (.int .i64 i14)), (5, .l 0 (f36 4) 0), (6, .v (.int .i64 at40))], [(0, .cells (f36 4) [.int .i64 x29.1, .int .i64 x29.2] 60)], [], 1⟩ (by kernel_rfl) ?_
                    exact n_join ⟨at40, rfl, some_inj hl43, le39⟩
                · replace hl43 := if_f (ne_of_beq_false hc58) hl43
                  refine dx_exec (fuel := 0) [0] [23, 24, 25, 26, 27, 28, 29, 30, 31, 32, 33] [0, 3, 4, 5, 6, 50] [0] [] [true, true, true, true, true, true, true, true, true, true, true, true, true, true, true, true, true, true, true, true, true, true, true, true, true, true, true, true, true, true, true, true, true, true] ⟨[(0, .v (.slice A2 l1.length c3)), (3, .v (.slice A11 out10.length c12)), (4, .v (.int .i64 i14)), (5, .l 0 (f36 4) 0), (6, .v (.int .i64 at40)), (50, .v (.bool false))], [(0, .cells (f36 4) [.int .i64 x29.1, .int .i64 x29.2] 60)], [], 1⟩ (by kernel_rfl) (fun _ _ h => h) (by kernel_rfl) (by kernel_rfl) ?_ rfl
                  refine d_end (by kernel_rfl) ?_
                  refine n_then ?_
                  refine g_cond false (by kernel_rfl) (fun hc => ?_) (fun hc => ?_)
                  · cases hc
                  · refine g_exit ?_
                    refine n_then_exit ?_
                    refine n_then_exit ?_
                    refine n_block_exit ?_
                    refine g_fin [0, 3, 4, 5, 6] [0] [] ⟨[(0, .v (.slice A2 l1.length c3)), (3, .v (.slice A11 out10.length c12)), (4, .v (.int .i64 i14)), (5, .l 0 (f36 4) 0), (6, .v (.int .i64 at40))], [(0, .cells (f36 4) [.int .i64 x29.1, .int .i64 x29.2] 60)], [], 1⟩ (by kernel_rfl) ?_
                    exact n_join ⟨at40, rfl, some_inj hl43, le39⟩
            · replace hl43 := if_f (of_decide_eq_false hc49) hl43
              refine dx_exec (fuel := 0) [0] [5, 6, 7, 8, 9, 10, 11, 12, 13, 14, 15, 16, 17, 18, 19, 20, 21, 22, 23, 24, 25, 26, 27, 28, 29, 30, 31, 32, 33] [0, 3, 4, 5, 6, 50] [0] [] [true, true, true, true, true, true, true, true, true, true, true, true, true, true, true, true, true, true, true, true, true, true, true, true, true, true, true, true, true, true, true, true, true, true] ⟨[(0, .v (.slice A2 l1.length c3)), (3, .v (.slice A11 out10.length c12)), (4, .v (.int .i64 i14)), (5, .l 0 (f36 4) 0), (6, .v (.int .i64 at40)), (50, .v (.bool false))], [(0, .cells (f36 4) [.int .i64 x29.1, .int .i64 x29.2] 60)], [], 1⟩ (by kernel_rfl) (fun _ _ h => h) (by kernel_rfl) (by kernel_rfl) ?_ rfl
              refine d_end (by kernel_rfl) ?_
              refine n_then ?_
              refine g_cond false (by kernel_rfl) (fun hc => ?_) (fun hc => ?_)
              · cases hc
              · refine g_exit ?_
                refine n_then_exit ?_
                refine n_then_exit ?_
                refine n_block_exit ?_
                refine g_fin [0, 3, 4, 5, 6] [0] [] ⟨[(0, .v (.slice A2 l1.length c3)), (3, .v (.slice A11 out10.length c12)), (4, .v (.int .i64 i14)), (5, .l 0 (f36 4) 0), (6, .v (.int .i64 at40))], [(0, .cells (f36 4) [.int .i64 x29.1, .int .i64 x29.2] 60)], [], 1⟩ (by kernel_rfl) ?_
                exact n_join ⟨at40, rfl, some_inj hl43, le39⟩
        · rintro M45 _ ⟨at47, rfl, ht42, le46⟩
          subst ht42
          refine n_then ?_
          refine g_seq ?_
          refine g_seq ?_
          refine d_begin (by kernel_rfl) [0] [] 19 (by kernel_rfl) ?_
          refine dx_exec (fuel := 13) [0] [0, 1, 2, 3, 4, 5] [0, 3, 4, 5, 6, 58] [0] [] [true, true, true, true, true, true, false, false, false, false, false, false, false, false, false, false, false, false, false] ⟨[(0, .v (.slice A2 l1.length c3)), (3, .v (.slice A11 out10.length c12)), (4, .v (.int .i64 i14)), (5, .l 0 (f36 4) 0), (6, .v (.int .i64 at47)), (58, .v (.bool (x29.1 == x29.2)))], [(0, .cells (f36 4) [.int .i64 x29.1, .int .i64 x29.2] 60)], [], 1⟩ (by kernel_rfl) (fun _ _ h => h) (by kernel_rfl) (by kernel_rfl) ?_ rfl
          refine g_bool 58 ((x29.1 == x29.2)) (by kernel_rfl) (fun hc61 => ?_) (fun hc61 => ?_)
          · replace hl17 := if_t (eq_of_beq hc61) hl17
            refine dx_exec (fuel := 0) [0] [6, 7, 8, 9, 10, 11, 12, 13, 14, 15, 16, 17, 18] [0, 3, 4, 5, 6, 71] [0] [] [true, true, true, true, true, true, true, true, true, true, true, true, true, true, true, true, true, true, true] ⟨[(0, .v (.slice A2 l1.length c3)), (3, .v (.slice A11 out10.length c12)), (4, .v (.int .i64 i14)), (5, .l 0 (f36 4) 0), (6, .v (.int .i64 at47)), (71, .v (.bool true))], [(0, .cells (f36 4) [.int .i64 x29.1, .int .i64 x29.2] 60)], [], 1⟩ (by kernel_rfl) (fun _ _ h => h) (by kernel_rfl) (by kernel_rfl) ?_ rfl
            refine d_end (by kernel_rfl) ?_
            refine n_then ?_
            refine g_cond true (by kernel_rfl) (fun hc => ?_) (fun hc => ?_)
            · refine g_exit ?_
              refine n_then_exit ?_
              refine n_block_exit ?_
              refine n_then ?_
              refine g_region ?_
              refine g_exec 3 [0, 3, 4] [] [] (fun _ => ⟨[(0, .v (.slice A2 l1.length c3)), (3, .v (.slice A11 out10.length c12)), (4, .v (.int .i64 (IntKind.i64.wrap (i14 + 1))))], [], [], 0⟩) (fun _ => by kernel_rfl) fun _ => ?_
              refine g_end (by kernel_rfl) ?_
              refine n_then ?_
              refine g_fin [0, 3, 4] [] [] ⟨[(0, .v (.slice A2 l1.length c3)), (3, .v (.slice A11 out10.length c12)), (4, .v (.int .i64 (IntKind.i64.wrap (i14 + 1))))], [], [], 0⟩ (by kernel_rfl) ?_
              exact g_again q15 ⟨out10, A11, c12, (IntKind.i64.wrap (i14 + 1)), rfl, (SlF.le hA13 le46), hl17, (fun _ _ h => le46 _ _ (le9 _ _ h))⟩ (Nat.lt_succ_self _)
            · cases hc
          · replace hl17 := if_f (ne_of_beq_false hc61) hl17
            refine dx_exec (fuel := 8) [0] [6, 7, 8, 9, 10] [0, 3, 4, 5, 6, 58, 63] [0] [] [true, true, true, true, true, true, true, true, true, true, true, false, false, false, false, false, false, false, false] ⟨[(0, .v (.slice A2 l1.length c3)), (3, .v (.slice A11 out10.length c12)), (4, .v (.int .i64 i14)), (5, .l 0 (f36 4) 0), (6, .v (.int .i64 at47)), (58, .v (.bool false)), (63, .v (.bool (decide (at47 < (out10.length : Int)))))], [(0, .cells (f36 4) [.int .i64 x29.1, .int .i64 x29.2] 60)], [], 1⟩ (by kernel_rfl) (fun _ _ h => h) (by kernel_rfl) (by kernel_rfl) ?_ rfl
            refine g_bool 63 (decide (at47 < (out10.length : Int))) (by kernel_rfl) (fun hc63 => ?_) (fun hc63 => ?_)
            · replace hl17 := if_t (of_decide_eq_true hc63) hl17
              refine dx_exec (fuel := 5) [0] [11, 12, 15] [0, 3, 4, 5, 6, 58, 63, 64, 65, 68] [0] [] [true, true, true, true, true, true, true, true, true, true, true, true, true, false, false, true, false, false, false] ⟨[(0, .v (.slice A2 l1.length c3)), (3, .v (.slice A11 out10.length c12)), (4, .v (.int .i64 i14)), (5, .l 0 (f36 4) 0), (6, .v (.int .i64 at47)), (58, .v (.bool false)), (63, .v (.bool true)), (64, .v (.slice A11 out10.length c12)), (65, .v (.int .i64 at47)), (68, .v (.agg #[.int .i64 x29.1, .int .i64 x29.2]))], [(0, .cells (f36 4) [.int .i64 x29.1, .int .i64 x29.2] 60)], [], 1⟩ (by kernel_rfl) (fun _ _ h => h) (by kernel_rfl) (by kernel_rfl) ?_ rfl
              obtain ⟨x64, h65, hl17⟩ := bind_t hl17
              obtain ⟨b66, o67, _, hA68, rfl, hc69⟩ := SlF.at hA13 h65
              refine dx_yld (fuel := 4) (i := 13) [0] [true, true, true, true, true, true, true, true, true, true, true, true, true, true, false, true, false, false, false] (by kernel_rfl) (fun _ _ h => h) (by kernel_rfl) (y_indexA (dst := some 66) (A := A11) (len := out10.length) (kk := .i64) (ii := at47) (sz := 2) (by kernel_rfl) hA68 (xs := out10) rfl h65) (by kernel_rfl) (by kernel_rfl) ?_ rfl
              refine dx_yld (fuel := 3) (i := 14) [0] [true, true, true, true, true, true, true, true, true, true, true, true, true, true, true, true, false, false, false] (by kernel_rfl) (fun _ _ h => h) (by kernel_rfl) (y_loads (dst := some 67) (b := b66) (o := o67 + (at47).toNat * 2) (sz := 2) (by kernel_rfl) (cs := [.int .i64 x64.1, .int .i64 x64.2]) rfl (fun j v hj => le46 _ _ (hc69 j v hj))) (by kernel_rfl) (by kernel_rfl) ?_ rfl
              refine dx_yld (fuel := 2) (i := 16) [0] [true, true, true, true, true, true, true, true, true, true, true, true, true, true, true, true, true, false, false] (by kernel_rfl) (fun _ _ h => h) (by kernel_rfl) (y_eq (dst := some 69) (r := ((x64.1 == x29.1) && ((x64.2 == x29.2) && true))) (by kernel_rfl)) (by kernel_rfl) (by kernel_rfl) ?_ rfl
              refine dx_exec (fuel := 0) [0] [17, 18] [0, 3, 4, 5, 6, 71] [0] [] [true, true, true, true, true, true, true, true, true, true, true, true, true, true, true, true, true, true, true] ⟨[(0, .v (.slice A2 l1.length c3)), (3, .v (.slice A11 out10.length c12)), (4, .v (.int .i64 i14)), (5, .l 0 (f36 4) 0), (6, .v (.int .i64 at47)), (71, .v (.bool ((x64.1 == x29.1) && ((x64.2 == x29.2) && true))))], [(0, .cells (f36 4) [.int .i64 x29.1, .int .i64 x29.2] 60)], [], 1⟩ (by kernel_rfl) (fun _ _ h => h) (by kernel_rfl) (by kernel_rfl) ?_ rfl
              refine d_end (by kernel_rfl) ?_
              refine n_then ?_
              refine g_cond (((x64.1 == x29.1) && ((x64.2 == x29.2) && true))) (by kernel_rfl) (fun hc70 => ?_) (fun hc70 => ?_)
              · replace hl17 := if_t hc70 hl17
                refine g_exit ?_
                refine n_then_exit ?_
                refine n_block_exit ?_
                refine n_then ?_
                refine g_region ?_
                refine g_exec 3 [0, 3, 4] [] [] (fun _ => ⟨[(0, .v (.slice A2 l1.length c3)), (3, .v (.slice A11 out10.length c12)), (4, .v (.int .i64 (IntKind.i64.wrap (i14 + 1))))], [], [], 0⟩) (fun _ => by kernel_rfl) fun _ => ?_
                refine g_end (by kernel_rfl) ?_
                refine n_then ?_
                refine g_fin [0, 3, 4] [] [] ⟨[(0, .v (.slice A2 l1.length c3)), (3, .v (.slice A11 out10.length c12)), (4, .v (.int .i64 (IntKind.i64.wrap (i14 + 1))))], [], [], 0⟩ (by kernel_rfl) ?_
                exact g_again q15 ⟨out10, A11, c12, (IntKind.i64.wrap (i14 + 1)), rfl, (SlF.le hA13 le46), hl17, (fun _ _ h => le46 _ _ (le9 _ _ h))⟩ (Nat.lt_succ_self _)
              · replace hl17 := if_f (ne_t hc70) hl17
                refine g_skip ?_
                refine n_then ?_
                refine d_begin (by kernel_rfl) [0] [] 12 (by kernel_rfl) ?_
                refine dx_exec (fuel := 7) [0] [0, 1, 4, 7, 8] [0, 3, 4, 72, 73, 76, 79, 80] [0] [] [true, true, false, false, true, false, false, true, true, false, false, false] ⟨[(0, .v (.slice A2 l1.length c3)), (3, .v (.slice A11 out10.length c12)), (4, .v (.int .i64 i14)), (72, .v (.slice A11 out10.length c12)), (73, .v (.int .i64 at47)), (76, .v (.agg #[.int .i64 x29.1, .int .i64 x29.2])), (79, .v (.slice A11 out10.length c12)), (80, .v (.int .i64 at47))], [(0, .cells (f36 4) [.int .i64 x29.1, .int .i64 x29.2] 60)], [], 1⟩ (by kernel_rfl) (fun _ _ h => h) (by kernel_rfl) (by kernel_rfl) ?_ rfl
                obtain ⟨s72, h73, hl17⟩ := bind_t hl17
                obtain ⟨A74, c75, hv76, hA77⟩ := SlF.slice hA13 h73
                refine dx_yld (fuel := 6) (i := 2) [0] [true, true, true, false, true, false, false, true, true, false, false, false] (by kernel_rfl) (fun _ _ h => h) (by kernel_rfl) (y_sliceA (dst := some 74) (A := A11) (len := out10.length) (cap := c12) (sz := 2) 0 at47 (by kernel_rfl) (.inr ⟨rfl, rfl⟩) (.inl rfl) (xs := out10) rfl hA13.1 h73 hv76) (by kernel_rfl) (by kernel_rfl) ?_ rfl
                obtain ⟨s78, h79, hl17⟩ := bind_t hl17
                obtain ⟨A80, c81, hv82, hA83⟩ := SlF.slice hA13 h79
                refine dx_yld (fuel := 5) (i := 9) [0] [true, true, true, false, true, false, false, true, true, true, false, false] (by kernel_rfl) (fun _ _ h => h) (by kernel_rfl) (y_sliceA (dst := some 81) (A := A11) (len := out10.length) (cap := c12) (sz := 2) at47 (out10.length : Int) (by kernel_rfl) (.inl rfl) (.inr ⟨rfl, rfl⟩) (xs := out10) rfl hA13.1 h79 hv82) (by kernel_rfl) (by kernel_rfl) ?_ rfl
                refine dx_ops2 (fuel := 4) 3 5 [true, true, true, true, true, false, false, true, true, true, false, false] [true, true, true, false, true, true, false, true, true, true, false, false] (by kernel_rfl) (by kernel_rfl) (by kernel_rfl) rfl ?_ ?_
                · refine g_newrow 0 60 2 (by rfl) ?_
                  obtain ⟨ys84, h90, hl17⟩ := bind_t hl17
                  refine o_appendS (dst := some 75) 0 (u := .slice none 0 0) (row := ⟨.slice none 0 0, 60, 2, 0, []⟩) (A := A74) (c := c75) (bytes := 16) (by kernel_rfl) rfl (rep := (fl chP)) (SlF.le hA77 le46) Cells.nil' rfl h90 ?_
                  intro v85 cs91 hcl86 hn87
                  refine dx_know [0] (fun _ _ h => h) (by kernel_rfl) ?_
                  refine dx_op (fuel := 3) (i := 5) [true, true, true, true, true, true, false, true, true, true, false, false] (by kernel_rfl) (by kernel_rfl) ?_ rfl
                  refine o_step (used := true) (fun f92 => ⟨[(77, .v (.slice (some ⟨f92, 0, none⟩) 1 1)), (75, .v (v85)), (81, .v (.slice A80 s78.length c81)), (74, .v (.slice A74 s72.length c75)), (0, .v (.slice A2 l1.length c3)), (3, .v (.slice A11 out10.length c12)), (4, .v (.int .i64 i14)), (72, .v (.slice A11 out10.length c12)), (73, .v (.int .i64 at47)), (76, .v (.agg #[.int .i64 x29.1, .int .i64 x29.2])), (79, .v (.slice A11 out10.length c12)), (80, .v (.int .i64 at47))], [(1, .cells f92 [.int .i64 x29.1, .int .i64 x29.2] 60), (0, .cells (f36 4) [.int .i64 x29.1, .int .i64 x29.2] 60)], [(0, ⟨v85, 60, 2, 0 + s72.length, [] ++ cs91⟩)], 2⟩) rfl (by kernel_rfl) (fun _ => by kernel_rfl) (fun f92 => ?_)
                  refine dx_know [0] (fun _ _ h => h) (by kernel_rfl) ?_
                  obtain ⟨ys93, h99, hl17⟩ := bind_t hl17
                  obtain ⟨hcl95, hn96, hb97, hb98⟩ := row_apd (rep := (fl chP) M45) (sz := 2) (d := [.int .i64 x29.1, .int .i64 x29.2]) h99 hcl86 hn87 (Cells.cons (rep := (fl chP) M45) (sz := 2) (x := x29) (c := [.int .i64 x29.1, .int .i64 x29.2]) (rfl) rfl (Cells.nil'))
                  refine dx_op (fuel := 2) (i := 6) [true, true, true, true, true, true, true, true, true, true, false, false] (by kernel_rfl) (by kernel_rfl) ?_ rfl
                  refine o_append (dst := some 78) 0 1 1 (u := v85) (row := ⟨v85, 60, 2, 0 + s72.length, [] ++ cs91⟩) (b := f92) (cs := [.int .i64 x29.1, .int .i64 x29.2]) (bytes := 16) (by kernel_rfl) rfl rfl hb97 hb98 ?_
                  intro v94
                  refine dx_know [0] (fun _ _ h => h) (by kernel_rfl) ?_
                  obtain ⟨ys100, h106, hl17⟩ := bind_t hl17
                  refine dx_op (fuel := 1) (i := 10) [true, true, true, true, true, true, true, true, true, true, true, false] (by kernel_rfl) (by kernel_rfl) ?_ rfl
                  refine o_appendS (dst := some 82) 0 (u := v94) (row := ⟨v94, 60, 2, (0 + s72.length) + 1, [] ++ cs91 ++ [.int .i64 x29.1, .int .i64 x29.2]⟩) (A := A80) (c := c81) (bytes := 16) (by kernel_rfl) rfl (rep := (fl chP)) (SlF.le hA83 le46) hcl95 hn96 h106 ?_
                  intro v101 cs107 hcl102 hn103
                  refine dx_know [0] (fun _ _ h => h) (by kernel_rfl) ?_
                  refine dx_exec (fuel := 0) [0] [11] [0, 3, 4] [0] [0] [true, true, true, true, true, true, true, true, true, true, true, true] ⟨[(0, .v (.slice A2 l1.length c3)), (3, .v (v101)), (4, .v (.int .i64 i14))], [(0, .cells (f36 4) [.int .i64 x29.1, .int .i64 x29.2] 60)], [(0, ⟨v101, 60, 2, ((0 + s72.length) + 1) + s78.length, [] ++ cs91 ++ [.int .i64 x29.1, .int .i64 x29.2] ++ cs107⟩)], 1⟩ (by kernel_rfl) (fun _ _ h => h) (by kernel_rfl) (by kernel_rfl) ?_ rfl
                  refine d_end (by kernel_rfl) ?_
                  refine n_block ?_
                  refine n_then ?_
                  refine g_region ?_
                  refine g_exec 3 [0, 3, 4] [] [0] (fun _ => ⟨[(0, .v (.slice A2 l1.length c3)), (3, .v (v101)), (4, .v (.int .i64 (IntKind.i64.wrap (i14 + 1))))], [], [(0, ⟨v101, 60, 2, ((0 + s72.length) + 1) + s78.length, [] ++ cs91 ++ [.int .i64 x29.1, .int .i64 x29.2] ++ cs107⟩)], 0⟩) (fun _ => by kernel_rfl) fun _ => ?_
                  refine g_end (by kernel_rfl) ?_
                  refine n_then ?_
                  refine g_pubS 0 (by rfl) hcl102 hn103 ?_
                  intro M109 A110 c111 le112 hv113 hA114
                  subst hv113
                  refine g_fin [0, 3, 4] [] [] ⟨[(0, .v (.slice A2 l1.length c3)), (3, .v (.slice A110 ys100.length c111)), (4, .v (.int .i64 (IntKind.i64.wrap (i14 + 1))))], [], [], 0⟩ (by kernel_rfl) ?_
                  exact g_again q15 ⟨ys100, A110, c111, (IntKind.i64.wrap (i14 + 1)), rfl, hA114, hl17, (fun _ _ h => le112 _ _ (le46 _ _ (le9 _ _ h)))⟩ (Nat.lt_succ_self _)
                · refine o_step (used := true) (fun f115 => ⟨[(77, .v (.slice (some ⟨f115, 0, none⟩) 1 1)), (81, .v (.slice A80 s78.length c81)), (74, .v (.slice A74 s72.length c75)), (0, .v (.slice A2 l1.length c3)), (3, .v (.slice A11 out10.length c12)), (4, .v (.int .i64 i14)), (72, .v (.slice A11 out10.length c12)), (73, .v (.int .i64 at47)), (76, .v (.agg #[.int .i64 x29.1, .int .i64 x29.2])), (79, .v (.slice A11 out10.length c12)), (80, .v (.int .i64 at47))], [(1, .cells f115 [.int .i64 x29.1, .int .i64 x29.2] 60), (0, .cells (f36 4) [.int .i64 x29.1, .int .i64 x29.2] 60)], [], 2⟩) rfl (by kernel_rfl) (fun _ => by kernel_rfl) (fun f115 => ?_)
                  refine dx_know [0] (fun _ _ h => h) (by kernel_rfl) ?_
                  refine g_newrow 0 60 2 (by rfl) ?_
                  obtain ⟨ys116, h122, hl17⟩ := bind_t hl17
                  refine dx_op (fuel := 3) (i := 3) [true, true, true, true, true, true, false, true, true, true, false, false] (by kernel_rfl) (by kernel_rfl) ?_ rfl
                  refine o_appendS (dst := some 75) 0 (u := .slice none 0 0) (row := ⟨.slice none 0 0, 60, 2, 0, []⟩) (A := A74) (c := c75) (bytes := 16) (by kernel_rfl) rfl (rep := (fl chP)) (SlF.le hA77 le46) Cells.nil' rfl h122 ?_
                  intro v117 cs123 hcl118 hn119
                  refine dx_know [0] (fun _ _ h => h) (by kernel_rfl) ?_
                  obtain ⟨ys124, h130, hl17⟩ := bind_t hl17
                  obtain ⟨hcl126, hn127, hb128, hb129⟩ := row_apd (rep := (fl chP) M45) (sz := 2) (d := [.int .i64 x29.1, .int .i64 x29.2]) h130 hcl118 hn119 (Cells.cons (rep := (fl chP) M45) (sz := 2) (x := x29) (c := [.int .i64 x29.1, .int .i64 x29.2]) (rfl) rfl (Cells.nil'))
                  refine dx_op (fuel := 2) (i := 6) [true, true, true, true, true, true, true, true, true, true, false, false] (by kernel_rfl) (by kernel_rfl) ?_ rfl
                  refine o_append (dst := some 78) 0 1 1 (u := v117) (row := ⟨v117, 60, 2, 0 + s72.length, [] ++ cs123⟩) (b := f115) (cs := [.int .i64 x29.1, .int .i64 x29.2]) (bytes := 16) (by kernel_rfl) rfl rfl hb128 hb129 ?_
                  intro v125
                  refine dx_know [0] (fun _ _ h => h) (by kernel_rfl) ?_
                  obtain ⟨ys131, h137, hl17⟩ := bind_t hl17
                  refine dx_op (fuel := 1) (i := 10) [true, true, true, true, true, true, true, true, true, true, true, false] (by kernel_rfl) (by kernel_rfl) ?_ rfl
                  refine o_appendS (dst := some 82) 0 (u := v125) (row := ⟨v125, 60, 2, (0 + s72.length) + 1, [] ++ cs123 ++ [.int .i64 x29.1, .int .i64 x29.2]⟩) (A := A80) (c := c81) (bytes := 16) (by kernel_rfl) rfl (rep := (fl chP)) (SlF.le hA83 le46) hcl126 hn127 h137 ?_
                  intro v132 cs138 hcl133 hn134
                  refine dx_know [0] (fun _ _ h => h) (by kernel_rfl) ?_
                  refine dx_exec (fuel := 0) [0] [11] [0, 3, 4] [0] [0] [true, true, true, true, true, true, true, true, true, true, true, true] ⟨[(0, .v (.slice A2 l1.length c3)), (3, .v (v132)), (4, .v (.int .i64 i14))], [(0, .cells (f36 4) [.int .i64 x29.1, .int .i64 x29.2] 60)], [(0, ⟨v132, 60, 2, ((0 + s72.length) + 1) + s78.length, [] ++ cs123 ++ [.int .i64 x29.1, .int .i64 x29.2] ++ cs138⟩)], 1⟩ (by kernel_rfl) (fun _ _ h => h) (by kernel_rfl) (by kernel_rfl) ?_ rfl
                  refine d_end (by kernel_rfl) ?_
                  refine n_block ?_
                  refine n_then ?_
                  refine g_region ?_
                  refine g_exec 3 [0, 3, 4] [] [0] (fun _ => ⟨[(0, .v (.slice A2 l1.length c3)), (3, .v (v132)), (4, .v (.int .i64 (IntKind.i64.wrap (i14 + 1))))], [], [(0, ⟨v132, 60, 2, ((0 + s72.length) + 1) + s78.length, [] ++ cs123 ++ [.int .i64 x29.1, .int .i64 x29.2] ++ cs138⟩)], 0⟩) (fun _ => by kernel_rfl) fun _ => ?_
                  refine g_end (by kernel_rfl) ?_
                  refine n_then ?_
                  refine g_pubS 0 (by rfl) hcl133 hn134 ?_
                  intro M140 A141 c142 le143 hv144 hA145
                  subst hv144
                  refine g_fin [0, 3, 4] [] [] ⟨[(0, .v (.slice A2 l1.length c3)), (3, .v (.slice A141 ys131.length c142)), (4, .v (.int .i64 (IntKind.i64.wrap (i14 + 1))))], [], [], 0⟩ (by kernel_rfl) ?_
                  exact g_again q15 ⟨ys131, A141, c142, (IntKind.i64.wrap (i14 + 1)), rfl, hA145, hl17, (fun _ _ h => le143 _ _ (le46 _ _ (le9 _ _ h)))⟩ (Nat.lt_succ_self _)
            · replace hl17 := if_f (of_decide_eq_false hc63) hl17
              refine dx_exec (fuel := 0) [0] [11, 12, 13, 14, 15, 16, 17, 18] [0, 3, 4, 5, 6, 71] [0] [] [true, true, true, true, true, true, true, true, true, true, true, true, true, true, true, true, true, true, true] ⟨[(0, .v (.slice A2 l1.length c3)), (3, .v (.slice A11 out10.length c12)), (4, .v (.int .i64 i14)), (5, .l 0 (f36 4) 0), (6, .v (.int .i64 at47)), (71, .v (.bool false))], [(0, .cells (f36 4) [.int .i64 x29.1, .int .i64 x29.2] 60)], [], 1⟩ (by kernel_rfl) (fun _ _ h => h) (by kernel_rfl) (by kernel_rfl) ?_ rfl
              refine d_end (by kernel_rfl) ?_
              refine n_then ?_
              refine g_cond false (by kernel_rfl) (fun hc => ?_) (fun hc => ?_)
              · cases hc
              · refine g_skip ?_
                refine n_then ?_
                refine d_begin (by kernel_rfl) [0] [] 12 (by kernel_rfl) ?_
                refine dx_exec (fuel := 7) [0] [0, 1, 4, 7, 8] [0, 3, 4, 72, 73, 76, 79, 80] [0] [] [true, true, false, false, true, false, false, true, true, false, false, false] ⟨[(0, .v (.slice A2 l1.length c3)), (3, .v (.slice A11 out10.length c12)), (4, .v (.int .i64 i14)), (72, .v (.slice A11 out10.length c12)), (73, .v (.int .i64 at47)), (76, .v (.agg #[.int .i64 x29.1, .int .i64 x29.2])), (79, .v (.slice A11 out10.length c12)), (80, .v (.int .i64 at47))], [(0, .cells (f36 4) [.int .i64 x29.1, .int .i64 x29.2] 60)], [], 1⟩ (by kernel_rfl) (fun _ _ h => h) (by kernel_rfl) (by kernel_rfl) ?_ rfl
                obtain ⟨s146, h147, hl17⟩ := bind_t hl17
                obtain ⟨A148, c149, hv150, hA151⟩ := SlF.slice hA13 h147
                refine dx_yld (fuel := 6) (i := 2) [0] [true, true, true, false, true, false, false, true, true, false, false, false] (by kernel_rfl) (fun _ _ h => h) (by kernel_rfl) (y_sliceA (dst := some 74) (A := A11) (len := out10.length) (cap := c12) (sz := 2) 0 at47 (by kernel_rfl) (.inr ⟨rfl, rfl⟩) (.inl rfl) (xs := out10) rfl hA13.1 h147 hv150) (by kernel_rfl) (by kernel_rfl) ?_ rfl
                obtain ⟨s152, h153, hl17⟩ := bind_t hl17
                obtain ⟨A154, c155, hv156, hA157⟩ := SlF.slice hA13 h153
                refine dx_yld (fuel := 5) (i := 9) [0] [true, true, true, false, true, false, false, true, true, true, false, false] (by kernel_rfl) (fun _ _ h => h) (by kernel_rfl) (y_sliceA (dst := some 81) (A := A11) (len := out10.length) (cap := c12) (sz := 2) at47 (out10.length : Int) (by kernel_rfl) (.inl rfl) (.inr ⟨rfl, rfl⟩) (xs := out10) rfl hA13.1 h153 hv156) (by kernel_rfl) (by kernel_rfl) ?_ rfl
                refine dx_ops2 (fuel := 4) 3 5 [true, true, true, true, true, false, false, true, true, true, false, false] [true, true, true, false, true, true, false, true, true, true, false, false] (by kernel_rfl) (by kernel_rfl) (by kernel_rfl) rfl ?_ ?_
                · refine g_newrow 0 60 2 (by rfl) ?_
                  obtain ⟨ys158, h164, hl17⟩ := bind_t hl17
                  refine o_appendS (dst := some 75) 0 (u := .slice none 0 0) (row := ⟨.slice none 0 0, 60, 2, 0, []⟩) (A := A148) (c := c149) (bytes := 16) (by kernel_rfl) rfl (rep := (fl chP)) (SlF.le hA151 le46) Cells.nil' rfl h164 ?_
                  intro v159 cs165 hcl160 hn161
                  refine dx_know [0] (fun _ _ h => h) (by kernel_rfl) ?_
                  refine dx_op (fuel := 3) (i := 5) [true, true, true, true, true, true, false, true, true, true, false, false] (by kernel_rfl) (by kernel_rfl) ?_ rfl
                  refine o_step (used := true) (fun f166 => ⟨[(77, .v (.slice (some ⟨f166, 0, none⟩) 1 1)), (75, .v (v159)), (81, .v (.slice A154 s152.length c155)), (74, .v (.slice A148 s146.length c149)), (0, .v (.slice A2 l1.length c3)), (3, .v (.slice A11 out10.length c12)), (4, .v (.int .i64 i14)), (72, .v (.slice A11 out10.length c12)), (73, .v (.int .i64 at47)), (76, .v (.agg #[.int .i64 x29.1, .int .i64 x29.2])), (79, .v (.slice A11 out10.length c12)), (80, .v (.int .i64 at47))], [(1, .cells f166 [.int .i64 x29.1, .int .i64 x29.2] 60), (0, .cells (f36 4) [.int .i64 x29.1, .int .i64 x29.2] 60)], [(0, ⟨v159, 60, 2, 0 + s146.length, [] ++ cs165⟩)], 2⟩) rfl (by kernel_rfl) (fun _ => by kernel_rfl) (fun f166 => ?_)
                  refine dx_know [0] (fun _ _ h => h) (by kernel_rfl) ?_
                  obtain ⟨ys167, h173, hl17⟩ := bind_t hl17
                  obtain ⟨hcl169, hn170, hb171, hb172⟩ := row_apd (rep := (fl chP) M45) (sz := 2) (d := [.int .i64 x29.1, .int .i64 x29.2]) h173 hcl160 hn161 (Cells.cons (rep := (fl chP) M45) (sz := 2) (x := x29) (c := [.int .i64 x29.1, .int .i64 x29.2]) (rfl) rfl (Cells.nil'))
                  refine dx_op (fuel := 2) (i := 6) [true, true, true, true, true, true, true, true, true, true, false, false] (by kernel_rfl) (by kernel_rfl) ?_ rfl
                  refine o_append (dst := some 78) 0 1 1 (u := v159) (row := ⟨v159, 60, 2, 0 + s146.length, [] ++ cs165⟩) (b := f166) (cs := [.int .i64 x29.1, .int .i64 x29.2]) (bytes := 16) (by kernel_rfl) rfl rfl hb171 hb172 ?_
                  intro v168
                  refine dx_know [0] (fun _ _ h => h) (by kernel_rfl) ?_
                  obtain ⟨ys174, h180, hl17⟩ := bind_t hl17
                  refine dx_op (fuel := 1) (i := 10) [true, true, true, true, true, true, true, true, true, true, true, false] (by kernel_rfl) (by kernel_rfl) ?_ rfl
                  refine o_appendS (dst := some 82) 0 (u := v168) (row := ⟨v168, 60, 2, (0 + s146.length) + 1, [] ++ cs165 ++ [.int .i64 x29.1, .int .i64 x29.2]⟩) (A := A154) (c := c155) (bytes := 16) (by kernel_rfl) rfl (rep := (fl chP)) (SlF.le hA157 le46) hcl169 hn170 h180 ?_
                  intro v175 cs181 hcl176 hn177
                  refine dx_know [0] (fun _ _ h => h) (by kernel_rfl) ?_
                  refine dx_exec (fuel := 0) [0] [11] [0, 3, 4] [0] [0] [true, true, true, true, true, true, true, true, true, true, true, true] ⟨[(0, .v (.slice A2 l1.length c3)), (3, .v (v175)), (4, .v (.int .i64 i14))], [(0, .cells (f36 4) [.int .i64 x29.1, .int .i64 x29.2] 60)], [(0, ⟨v175, 60, 2, ((0 + s146.length) + 1) + s152.length, [] ++ cs165 ++ [.int .i64 x29.1, .int .i64 x29.2] ++ cs181⟩)], 1⟩ (by kernel_rfl) (fun _ _ h => h) (by kernel_rfl) (by kernel_rfl) ?_ rfl
                  refine d_end (by kernel_rfl) ?_
                  refine n_block ?_
                  refine n_then ?_
                  refine g_region ?_
                  refine g_exec 3 [0, 3, 4] [] [0] (fun _ => ⟨[(0, .v (.slice A2 l1.length c3)), (3, .v (v175)), (4, .v (.int .i64 (IntKind.i64.wrap (i14 + 1))))], [], [(0, ⟨v175, 60, 2, ((0 + s146.length) + 1) + s152.length, [] ++ cs165 ++ [.int .i64 x29.1, .int .i64 x29.2] ++ cs181⟩)], 0⟩) (fun _ => by kernel_rfl) fun _ => ?_
                  refine g_end (by kernel_rfl) ?_
                  refine n_then ?_
                  refine g_pubS 0 (by rfl) hcl176 hn177 ?_
                  intro M183 A184 c185 le186 hv187 hA188
                  subst hv187
                  refine g_fin [0, 3, 4] [] [] ⟨[(0, .v (.slice A2 l1.length c3)), (3, .v (.slice A184 ys174.length c185)), (4, .v (.int .i64 (IntKind.i64.wrap (i14 + 1))))], [], [], 0⟩ (by kernel_rfl) ?_
                  exact g_again q15 ⟨ys174, A184, c185, (IntKind.i64.wrap (i14 + 1)), rfl, hA188, hl17, (fun _ _ h => le186 _ _ (le46 _ _ (le9 _ _ h)))⟩ (Nat.lt_succ_self _)
                · refine o_step (used := true) (fun f189 => ⟨[(77, .v (.slice (some ⟨f189, 0, none⟩) 1 1)), (81, .v (.slice A154 s152.length c155)), (74, .v (.slice A148 s146.length c149)), (0, .v (.slice A2 l1.length c3)), (3, .v (.slice A11 out10.length c12)), (4, .v (.int .i64 i14)), (72, .v (.slice A11 out10.length c12)), (73, .v (.int .i64 at47)), (76, .v (.agg #[.int .i64 x29.1, .int .i64 x29.2])), (79, .v (.slice A11 out10.length c12)), (80, .v (.int .i64 at47))], [(1, .cells f189 [.int .i64 x29.1, .int .i64 x29.2] 60), (0, .cells (f36 4) [.int .i64 x29.1, .int .i64 x29.2] 60)], [], 2⟩) rfl (by kernel_rfl) (fun _ => by kernel_rfl) (fun f189 => ?_)
                  refine dx_know [0] (fun _ _ h => h) (by kernel_rfl) ?_
                  refine g_newrow 0 60 2 (by rfl) ?_
                  obtain ⟨ys190, h196, hl17⟩ := bind_t hl17
                  refine dx_op (fuel := 3) (i := 3) [true, true, true, true, true, true, false, true, true, true, false, false] (by kernel_rfl) (by kernel_rfl) ?_ rfl
                  refine o_appendS (dst := some 75) 0 (u := .slice none 0 0) (row := ⟨.slice none 0 0, 60, 2, 0, []⟩) (A := A148) (c := c149) (bytes := 16) (by kernel_rfl) rfl (rep := (fl chP)) (SlF.le hA151 le46) Cells.nil' rfl h196 ?_
                  intro v191 cs197 hcl192 hn193
                  refine dx_know [0] (fun _ _ h => h) (by kernel_rfl) ?_
                  obtain ⟨ys198, h204, hl17⟩ := bind_t hl17
                  obtain ⟨hcl200, hn201, hb202, hb203⟩ := row_apd (rep := (fl chP) M45) (sz := 2) (d := [.int .i64 x29.1, .int .i64 x29.2]) h204 hcl192 hn193 (Cells.cons (rep := (fl chP) M45) (sz := 2) (x := x29) (c := [.int .i64 x29.1, .int .i64 x29.2]) (rfl) rfl (Cells.nil'))
                  refine dx_op (fuel := 2) (i := 6) [true, true, true, true, true, true, true, true, true, true, false, false] (by kernel_rfl) (by kernel_rfl) ?_ rfl
                  refine o_append (dst := some 78) 0 1 1 (u := v191) (row := ⟨v191, 60, 2, 0 + s146.length, [] ++ cs197⟩) (b := f189) (cs := [.int .i64 x29.1, .int .i64 x29.2]) (bytes := 16) (by kernel_rfl) rfl rfl hb202 hb203 ?_
                  intro v199
                  refine dx_know [0] (fun _ _ h => h) (by kernel_rfl) ?_
                  obtain ⟨ys205, h211, hl17⟩ := bind_t hl17
                  refine dx_op (fuel := 1) (i := 10) [true, true, true, true, true, true, true, true, true, true, true, false] (by kernel_rfl) (by kernel_rfl) ?_ rfl
                  refine o_appendS (dst := some 82) 0 (u := v199) (row := ⟨v199, 60, 2, (0 + s146.length) + 1, [] ++ cs197 ++ [.int .i64 x29.1, .int .i64 x29.2]⟩) (A := A154) (c := c155) (bytes := 16) (by kernel_rfl) rfl (rep := (fl chP)) (SlF.le hA157 le46) hcl200 hn201 h211 ?_
                  intro v206 cs212 hcl207 hn208
                  refine dx_know [0] (fun _ _ h => h) (by kernel_rfl) ?_
                  refine dx_exec (fuel := 0) [0] [11] [0, 3, 4] [0] [0] [true, true, true, true, true, true, true, true, true, true, true, true] ⟨[(0, .v (.slice A2 l1.length c3)), (3, .v (v206)), (4, .v (.int .i64 i14))], [(0, .cells (f36 4) [.int .i64 x29.1, .int .i64 x29.2] 60)], [(0, ⟨v206, 60, 2, ((0 + s146.length) + 1) + s152.length, [] ++ cs197 ++ [.int .i64 x29.1, .int .i64 x29.2] ++ cs212⟩)], 1⟩ (by kernel_rfl) (fun _ _ h => h) (by kernel_rfl) (by kernel_rfl) ?_ rfl
                  refine d_end (by kernel_rfl) ?_
                  refine n_block ?_
                  refine n_then ?_
                  refine g_region ?_
                  refine g_exec 3 [0, 3, 4] [] [0] (fun _ => ⟨[(0, .v (.slice A2 l1.length c3)), (3, .v (v206)), (4, .v (.int .i64 (IntKind.i64.wrap (i14 + 1))))], [], [(0, ⟨v206, 60, 2, ((0 + s146.length) + 1) + s152.length, [] ++ cs197 ++ [.int .i64 x29.1, .int .i64 x29.2] ++ cs212⟩)], 0⟩) (fun _ => by kernel_rfl) fun _ => ?_
                  refine g_end (by kernel_rfl) ?_
                  refine n_then ?_
                  refine g_pubS 0 (by rfl) hcl207 hn208 ?_
                  intro M214 A215 c216 le217 hv218 hA219
                  subst hv218
                  refine g_fin [0, 3, 4] [] [] ⟨[(0, .v (.slice A2 l1.length c3)), (3, .v (.slice A215 ys205.length c216)), (4, .v (.int .i64 (IntKind.i64.wrap (i14 + 1))))], [], [], 0⟩ (by kernel_rfl) ?_
                  exact g_again q15 ⟨ys205, A215, c216, (IntKind.i64.wrap (i14 + 1)), rfl, hA219, hl17, (fun _ _ h => le217 _ _ (le46 _ _ (le9 _ _ h)))⟩ (Nat.lt_succ_self _)
      · replace hl17 := if_f (of_decide_eq_false hc27) hl17
        refine g_exit ?_
        refine n_then_exit ?_
        refine n_then_exit ?_
        refine n_block_exit ?_
        refine g_fin [3] [] [] ⟨[(3, .v (.slice A11 out10.length c12))], [], [], 0⟩ (by kernel_rfl) ?_
        exact n_join ⟨out10, A11, c12, rfl, hA13, some_inj hl17, le9⟩
  · rintro M19 _ ⟨out21, A22, c23, rfl, hA24, ht16, le20⟩
    subst ht16
    refine n_then ?_
    refine g_seq ?_
    refine g_region ?_
    refine g_exec 2 [2] [] [] (fun _ => ⟨[(2, .v (.slice A22 out21.length c23))], [], [], 0⟩) (fun _ => by kernel_rfl) fun _ => ?_
    refine g_end (by kernel_rfl) ?_
    refine n_then ?_
    refine g_ret ?_
    obtain rfl := some_inj h
    exact n_post (.slice A22 out21.length c23) (by kernel_rfl) ⟨_, _, rfl, hA24⟩
def ref10_Text (k : Nat) (names1 : List ByteArray) (a5 : Int) : Option (ByteArray) := (if a5 ≥ 0 then ((ref07_Name k a5)).bind fun r10 => ((cat (⟨#[39]⟩ : ByteArray) r10)).bind fun s15 => some s15 else ((ref10_PointOf a5)).bind fun r19 => (if r19 < (names1.length : Int) then ((ref10_PointOf a5)).bind fun r26 => ((idx names1 r26)).bind fun x31 => some x31 else some (⟨#[63]⟩ : ByteArray)))
theorem ref10_Text_calls (k : Nat) {M : Mem} {w : World} (hM : Sat M w) (names1 : List ByteArray) (A2 : Option Addr) (c3 : Nat) (hA4 : SlF (fl chS) 1 M A2 names1 c3) (a5 : Int) {r : ByteArray} (h : ref10_Text k names1 a5 = some r) : Ct Tryz.prog 29 [.slice A2 names1.length c3, .int .i64 a5] [] w M (fun v _ => v = .string r) := by
  unfold ref10_Text at h
  refine enter (n := 20) Tryz.func29 rfl rfl _ (by kernel_rfl) hM ?_
  refine g_seq ?_
  refine g_region ?_
  refine g_exec 1 [0, 1] [] [] (fun _ => ⟨[(0, .v (.slice A2 names1.length c3)), (1, .v (.int .i64 a5))], [], [], 0⟩) (fun _ => by kernel_rfl) fun _ => ?_
  refine g_end (by kernel_rfl) ?_
  refine n_then ?_
  refine g_seq ?_
  refine g_seq ?_
  refine g_region ?_
  refine g_exec 2 [0, 1, 6] [] [] (fun _ => ⟨[(0, .v (.slice A2 names1.length c3)), (1, .v (.int .i64 a5)), (6, .v (.bool (decide (a5 ≥ 0))))], [], [], 0⟩) (fun _ => by kernel_rfl) fun _ => ?_
  refine g_end (by kernel_rfl) ?_
  refine n_then ?_
  refine g_cond (decide (a5 ≥ 0)) (by kernel_rfl) (fun hc8 => ?_) (fun hc8 => ?_)
  · replace h := if_t (of_decide_eq_true hc8) h
    refine g_seq ?_
    refine g_region ?_
    refine g_exec 1 [7] [] [] (fun _ => ⟨[(7, .v (.int .i64 a5))], [], [], 0⟩) (fun _ => by kernel_rfl) fun _ => ?_
    obtain ⟨r10, h11, h⟩ := bind_t h
    refine g_call (dst := some 8) (g := 51) (args := [.int .i64 a5]) (by kernel_rfl) (by kernel_rfl) (fun v _ => v = .string r10) (by intro w hst; exact ref07_Name_calls k hst.sat a5 h11) ?_
    rintro _ M12 le13 rfl
    obtain ⟨s15, h16, h⟩ := bind_t h
    refine g_yld (y_catA (dst := some 9) (a := (⟨#[39]⟩ : ByteArray)) (b := r10) (by kernel_rfl) h16) ?_
    refine g_exec 1 [4] [] [] (fun _ => ⟨[(4, .v (.string s15))], [], [], 0⟩) (fun _ => by kernel_rfl) fun _ => ?_
    refine g_end (by kernel_rfl) ?_
    refine n_then ?_
    refine g_ret ?_
    refine n_then_ret ?_
    obtain rfl := some_inj h
    exact n_post (.string s15) (by kernel_rfl) rfl
  · replace h := if_f (of_decide_eq_false hc8) h
    refine g_skip ?_
    refine n_then ?_
    refine g_seq ?_
    refine g_seq ?_
    refine g_region ?_
    refine g_exec 1 [0, 1, 10] [] [] (fun _ => ⟨[(0, .v (.slice A2 names1.length c3)), (1, .v (.int .i64 a5)), (10, .v (.int .i64 a5))], [], [], 0⟩) (fun _ => by kernel_rfl) fun _ => ?_
    obtain ⟨r19, h20, h⟩ := bind_t h
    refine g_call (dst := some 11) (g := 26) (args := [.int .i64 a5]) (by kernel_rfl) (by kernel_rfl) (fun v _ => v = .int .i64 r19) (by intro w hst; exact ref10_PointOf_calls hst.sat a5 h20) ?_
    rintro _ M21 le22 rfl
    refine g_exec 3 [0, 1, 14] [] [] (fun _ => ⟨[(0, .v (.slice A2 names1.length c3)), (1, .v (.int .i64 a5)), (14, .v (.bool (decide (r19 < (names1.length : Int)))))], [], [], 0⟩) (fun _ => by kernel_rfl) fun _ => ?_
    refine g_end (by kernel_rfl) ?_
    refine n_then ?_
    refine g_cond (decide (r19 < (names1.length : Int))) (by kernel_rfl) (fun hc24 => ?_) (fun hc24 => ?_)
    · replace h := if_t (of_decide_eq_true hc24) h
      refine g_seq ?_
      refine g_region ?_
      refine g_exec 2 [15, 16] [] [] (fun _ => ⟨[(15, .v (.slice A2 names1.length c3)), (16, .v (.int .i64 a5))], [], [], 0⟩) (fun _ => by kernel_rfl) fun _ => ?_
      obtain ⟨r26, h27, h⟩ := bind_t h
      refine g_call (dst := some 17) (g := 26) (args := [.int .i64 a5]) (by kernel_rfl) (by kernel_rfl) (fun v _ => v = .int .i64 r26) (by intro w hst; exact ref10_PointOf_calls hst.sat a5 h27) ?_
      rintro _ M28 le29 rfl
      obtain ⟨x31, h32, h⟩ := bind_t h
      obtain ⟨b33, o34, _, hA35, rfl, hc36⟩ := SlF.at hA4 h32
      refine g_yld (y_indexA (dst := some 18) (A := A2) (len := names1.length) (kk := .i64) (ii := r26) (sz := 1) (by kernel_rfl) hA35 (xs := names1) rfl h32) ?_
      refine g_yld (y_load1 (dst := some 19) (ad := ⟨b33, o34 + (r26).toNat * 1, none⟩) (sz := 1) (by kernel_rfl) (v := .string x31) (le29 _ _ (le22 _ _ (hc36 0 _ rfl)))) ?_
      refine g_exec 1 [4] [] [] (fun _ => ⟨[(4, .v (.string x31))], [], [], 0⟩) (fun _ => by kernel_rfl) fun _ => ?_
      refine g_end (by kernel_rfl) ?_
      refine n_then ?_
      refine g_ret ?_
      refine n_then_ret ?_
      obtain rfl := some_inj h
      exact n_post (.string x31) (by kernel_rfl) rfl
    · replace h := if_f (of_decide_eq_false hc24) h
      refine g_skip ?_
      refine n_then ?_
      refine g_seq ?_
      refine g_region ?_
      refine g_exec 1 [4] [] [] (fun _ => ⟨[(4, .v (.string (⟨#[63]⟩ : ByteArray)))], [], [], 0⟩) (fun _ => by kernel_rfl) fun _ => ?_
      refine g_end (by kernel_rfl) ?_
      refine n_then ?_
      refine g_ret ?_
      obtain rfl := some_inj h
      exact n_post (.string (⟨#[63]⟩ : ByteArray)) (by kernel_rfl) rfl
def ref10_Texts_l1 (k0 : Nat) (names1 : List ByteArray) (l5 : List (Int × Int)) : Nat → ByteArray → Int → Option (ByteArray)
  | 0, _, _ => none
  | q + 1, s14, i15 => (if i15 < (l5.length : Int) then (if i15 > 0 then ((cat s14 (⟨#[44, 32]⟩ : ByteArray))).bind fun s29 => ((idx l5 i15)).bind fun x32 => ((ref10_Text k0 names1 x32.1)).bind fun r38 => ((cat s29 r38)).bind fun s42 => ((cat s42 (⟨#[32, 60, 61, 32]⟩ : ByteArray))).bind fun s44 => ((ref10_Text k0 names1 x32.2)).bind fun r46 => ((cat s44 r46)).bind fun s50 => ref10_Texts_l1 k0 names1 l5 q s50 (IntKind.i64.wrap (i15 + 1)) else ((idx l5 i15)).bind fun x53 => ((ref10_Text k0 names1 x53.1)).bind fun r59 => ((cat s14 r59)).bind fun s63 => ((cat s63 (⟨#[32, 60, 61, 32]⟩ : ByteArray))).bind fun s65 => ((ref10_Text k0 names1 x53.2)).bind fun r67 => ((cat s65 r67)).bind fun s71 => ref10_Texts_l1 k0 names1 l5 q s71 (IntKind.i64.wrap (i15 + 1))) else some s14)
def ref10_Texts (k : Nat) (names1 : List ByteArray) (l5 : List (Int × Int)) : Option (ByteArray) := (ref10_Texts_l1 k names1 l5 k (⟨#[]⟩ : ByteArray) 0).bind (fun s22 => (if (s22.toList == (⟨#[]⟩ : ByteArray).toList) = true then some (⟨#[45]⟩ : ByteArray) else some s22))
theorem ref10_Texts_calls (k : Nat) {M : Mem} {w : World} (hM : Sat M w) (names1 : List ByteArray) (A2 : Option Addr) (c3 : Nat) (hA4 : SlF (fl chS) 1 M A2 names1 c3) (l5 : List (Int × Int)) (A6 : Option Addr) (c7 : Nat) (hA8 : SlF (fl chP) 2 M A6 l5 c7) {r : ByteArray} (h : ref10_Texts k names1 l5 = some r) : Ct Tryz.prog 31 [.slice A2 names1.length c3, .slice A6 l5.length c7] [] w M (fun v _ => v = .string r) := by
  unfold ref10_Texts at h
  refine enter (n := 38) Tryz.func31 rfl rfl _ (by kernel_rfl) hM ?_
  refine g_seq ?_
  refine g_region ?_
  refine g_exec 1 [0, 1] [] [] (fun _ => ⟨[(0, .v (.slice A2 names1.length c3)), (1, .v (.slice A6 l5.length c7))], [], [], 0⟩) (fun _ => by kernel_rfl) fun _ => ?_
  refine g_end (by kernel_rfl) ?_
  refine n_then ?_
  refine g_seq ?_
  refine g_region ?_
  refine g_exec 1 [0, 1, 5] [] [] (fun _ => ⟨[(0, .v (.slice A2 names1.length c3)), (1, .v (.slice A6 l5.length c7)), (5, .v (.string (⟨#[]⟩ : ByteArray)))], [], [], 0⟩) (fun _ => by kernel_rfl) fun _ => ?_
  refine g_end (by kernel_rfl) ?_
  refine n_then ?_
  refine g_seq ?_
  refine g_seq ?_
  refine g_region ?_
  refine g_exec 1 [0, 1, 5, 6] [] [] (fun _ => ⟨[(0, .v (.slice A2 names1.length c3)), (1, .v (.slice A6 l5.length c7)), (5, .v (.string (⟨#[]⟩ : ByteArray))), (6, .v (.int .i64 0))], [], [], 0⟩) (fun _ => by kernel_rfl) fun _ => ?_
  refine g_end (by kernel_rfl) ?_
  refine n_then ?_
  refine g_fin [0, 1, 5, 6] [] [] ⟨[(0, .v (.slice A2 names1.length c3)), (1, .v (.slice A6 l5.length c7)), (5, .v (.string (⟨#[]⟩ : ByteArray))), (6, .v (.int .i64 0))], [], [], 0⟩ (by kernel_rfl) ?_
  obtain ⟨t19, h23, h⟩ := bind_t h
  refine g_blockJ (fun M20 s => ∃ (s22 : ByteArray), s = ⟨[(5, .v (.string s22))], [], [], 0⟩ ∧ s22 = t19 ∧ (∀ a u, M a = some u → M20 a = some u)) ?_ ?_
  · refine g_while (ι := Nat) (fun q16 M12 s => ∃ (s14 : ByteArray) (i15 : Int), s = ⟨[(0, .v (.slice A2 names1.length c3)), (1, .v (.slice A6 l5.length c7)), (5, .v (.string s14)), (6, .v (.int .i64 i15))], [], [], 0⟩ ∧ ref10_Texts_l1 k names1 l5 q16 s14 i15 = some t19 ∧ (∀ a u, M a = some u → M12 a = some u)) (fun q16 => q16) k ⟨(⟨#[]⟩ : ByteArray), 0, rfl, h23, (fun _ _ h => h)⟩ ?_
    rintro q16 M12 _ ⟨s14, i15, rfl, hl18, le13⟩
    obtain _ | q16 := q16
    · cases hl18
    · rw [ref10_Texts_l1] at hl18
      refine g_seq ?_
      refine g_seq ?_
      refine g_region ?_
      refine g_exec 4 [0, 1, 5, 6, 10] [] [] (fun _ => ⟨[(0, .v (.slice A2 names1.length c3)), (1, .v (.slice A6 l5.length c7)), (5, .v (.string s14)), (6, .v (.int .i64 i15)), (10, .v (.bool (decide (i15 < (l5.length : Int)))))], [], [], 0⟩) (fun _ => by kernel_rfl) fun _ => ?_
      refine g_end (by kernel_rfl) ?_
      refine n_then ?_
      refine g_cond (decide (i15 < (l5.length : Int))) (by kernel_rfl) (fun hc25 => ?_) (fun hc25 => ?_)
      · replace hl18 := if_t (of_decide_eq_true hc25) hl18
        refine g_skip ?_
        refine n_then ?_
        refine g_seq ?_
        refine g_block ?_
        refine g_seq ?_
        refine g_seq ?_
        refine g_region ?_
        refine g_exec 2 [0, 1, 5, 6, 14] [] [] (fun _ => ⟨[(0, .v (.slice A2 names1.length c3)), (1, .v (.slice A6 l5.length c7)), (5, .v (.string s14)), (6, .v (.int .i64 i15)), (14, .v (.bool (decide (i15 > 0))))], [], [], 0⟩) (fun _ => by kernel_rfl) fun _ => ?_
        refine g_end (by kernel_rfl) ?_
        refine n_then ?_
        refine g_cond (decide (i15 > 0)) (by kernel_rfl) (fun hc27 => ?_) (fun hc27 => ?_)
        · replace hl18 := if_t (of_decide_eq_true hc27) hl18
          refine g_region ?_
          refine g_exec 1 [0, 1, 5, 6, 15] [] [] (fun _ => ⟨[(0, .v (.slice A2 names1.length c3)), (1, .v (.slice A6 l5.length c7)), (5, .v (.string s14)), (6, .v (.int .i64 i15)), (15, .v (.string s14))], [], [], 0⟩) (fun _ => by kernel_rfl) fun _ => ?_
          obtain ⟨s29, h30, hl18⟩ := bind_t hl18
          refine g_yld (y_catA (dst := some 16) (a := s14) (b := (⟨#[44, 32]⟩ : ByteArray)) (by kernel_rfl) h30) ?_
          refine g_exec 1 [0, 1, 5, 6] [] [] (fun _ => ⟨[(0, .v (.slice A2 names1.length c3)), (1, .v (.slice A6 l5.length c7)), (5, .v (.string s29)), (6, .v (.int .i64 i15))], [], [], 0⟩) (fun _ => by kernel_rfl) fun _ => ?_
          refine g_end (by kernel_rfl) ?_
          refine n_then ?_
          refine d_begin (by kernel_rfl) [] [] 19 (by kernel_rfl) ?_
          refine dx_exec (fuel := 12) [] [0, 1, 2, 3, 10, 11, 12] [0, 1, 5, 6, 17, 18, 19, 20, 27, 28, 29] [] [] [true, true, true, true, false, false, false, false, false, false, true, true, true, false, false, false, false, false, false] ⟨[(0, .v (.slice A2 names1.length c3)), (1, .v (.slice A6 l5.length c7)), (5, .v (.string s29)), (6, .v (.int .i64 i15)), (17, .v (.string s29)), (18, .v (.slice A2 names1.length c3)), (19, .v (.slice A6 l5.length c7)), (20, .v (.int .i64 i15)), (27, .v (.slice A2 names1.length c3)), (28, .v (.slice A6 l5.length c7)), (29, .v (.int .i64 i15))], [], [], 0⟩ (by kernel_rfl) (fun _ _ h => h) (by kernel_rfl) (by kernel_rfl) ?_ rfl
          obtain ⟨x32, h33, hl18⟩ := bind_t hl18
          obtain ⟨b34, o35, _, hA36, rfl, hc37⟩ := SlF.at hA8 h33
          refine dx_yld (fuel := 11) (i := 4) [] [true, true, true, true, true, false, false, false, false, false, true, true, true, false, false, false, false, false, false] (by kernel_rfl) (fun _ _ h => h) (by kernel_rfl) (y_indexA (dst := some 21) (A := A6) (len := l5.length) (kk := .i64) (ii := i15) (sz := 2) (by kernel_rfl) hA36 (xs := l5) rfl h33) (by kernel_rfl) (by kernel_rfl) ?_ rfl
          refine dx_exec (fuel := 10) [] [5] [0, 1, 5, 6, 17, 18, 22, 27, 28, 29] [] [] [true, true, true, true, true, true, false, false, false, false, true, true, true, false, false, false, false, false, false] ⟨[(0, .v (.slice A2 names1.length c3)), (1, .v (.slice A6 l5.length c7)), (5, .v (.string s29)), (6, .v (.int .i64 i15)), (17, .v (.string s29)), (18, .v (.slice A2 names1.length c3)), (22, .v (.pointer (some ⟨b34, o35 + (i15).toNat * 2, none⟩))), (27, .v (.slice A2 names1.length c3)), (28, .v (.slice A6 l5.length c7)), (29, .v (.int .i64 i15))], [], [], 0⟩ (by kernel_rfl) (fun _ _ h => h) (by kernel_rfl) (by kernel_rfl) ?_ rfl
          refine dx_yld (fuel := 9) (i := 6) [] [true, true, true, true, true, true, true, false, false, false, true, true, true, false, false, false, false, false, false] (by kernel_rfl) (fun _ _ h => h) (by kernel_rfl) (y_load1 (dst := some 23) (ad := ⟨b34, o35 + (i15).toNat * 2, none⟩) (sz := 1) (by kernel_rfl) (v := .int .i64 x32.1) (le13 _ _ (hc37 0 _ rfl))) (by kernel_rfl) (by kernel_rfl) ?_ rfl
          refine dx_yld (fuel := 8) (i := 13) [] [true, true, true, true, true, true, true, false, false, false, true, true, true, true, false, false, false, false, false] (by kernel_rfl) (fun _ _ h => h) (by kernel_rfl) (y_indexA (dst := some 30) (A := A6) (len := l5.length) (kk := .i64) (ii := i15) (sz := 2) (by kernel_rfl) hA36 (xs := l5) rfl h33) (by kernel_rfl) (by kernel_rfl) ?_ rfl
          refine dx_exec (fuel := 7) [] [14] [0, 1, 5, 6, 17, 18, 23, 27, 31] [] [] [true, true, true, true, true, true, true, false, false, false, true, true, true, true, true, false, false, false, false] ⟨[(0, .v (.slice A2 names1.length c3)), (1, .v (.slice A6 l5.length c7)), (5, .v (.string s29)), (6, .v (.int .i64 i15)), (17, .v (.string s29)), (18, .v (.slice A2 names1.length c3)), (23, .v (.int .i64 x32.1)), (27, .v (.slice A2 names1.length c3)), (31, .v (.pointer (some ⟨b34, o35 + (i15).toNat * 2 + 1, none⟩)))], [], [], 0⟩ (by kernel_rfl) (fun _ _ h => h) (by kernel_rfl) (by kernel_rfl) ?_ rfl
          refine dx_yld (fuel := 6) (i := 15) [] [true, true, true, true, true, true, true, false, false, false, true, true, true, true, true, true, false, false, false] (by kernel_rfl) (fun _ _ h => h) (by kernel_rfl) (y_load1 (dst := some 32) (ad := ⟨b34, o35 + (i15).toNat * 2 + 1, none⟩) (sz := 1) (by kernel_rfl) (v := .int .i64 x32.2) (le13 _ _ (hc37 1 _ rfl))) (by kernel_rfl) (by kernel_rfl) ?_ rfl
          obtain ⟨r38, h39, hl18⟩ := bind_t hl18
          refine dx_op (fuel := 5) (i := 7) [true, true, true, true, true, true, true, true, false, false, true, true, true, true, true, true, false, false, false] (by kernel_rfl) (by kernel_rfl) ?_ rfl
          refine o_call (dst := some 24) (g := 29) (args := [.slice A2 names1.length c3, .int .i64 x32.1]) (by kernel_rfl) (by kernel_rfl) (fun v _ => v = .string r38) (by intro w hst; exact ref10_Text_calls k hst.sat names1 A2 c3 (SlF.le hA4 le13) x32.1 h39) ?_
          rintro _ M40 le41 rfl
          refine dx_know [] le41 (by kernel_rfl) ?_
          obtain ⟨s42, h43, hl18⟩ := bind_t hl18
          refine dx_yld (fuel := 4) (i := 8) [] [true, true, true, true, true, true, true, true, true, false, true, true, true, true, true, true, false, false, false] (by kernel_rfl) le41 (by kernel_rfl) (y_catA (dst := some 25) (a := s29) (b := r38) (by kernel_rfl) h43) (by kernel_rfl) (by kernel_rfl) ?_ rfl
          obtain ⟨s44, h45, hl18⟩ := bind_t hl18
          refine dx_yld (fuel := 3) (i := 9) [] [true, true, true, true, true, true, true, true, true, true, true, true, true, true, true, true, false, false, false] (by kernel_rfl) le41 (by kernel_rfl) (y_catA (dst := some 26) (a := s42) (b := (⟨#[32, 60, 61, 32]⟩ : ByteArray)) (by kernel_rfl) h45) (by kernel_rfl) (by kernel_rfl) ?_ rfl
          obtain ⟨r46, h47, hl18⟩ := bind_t hl18
          refine dx_op (fuel := 2) (i := 16) [true, true, true, true, true, true, true, true, true, true, true, true, true, true, true, true, true, false, false] (by kernel_rfl) (by kernel_rfl) ?_ rfl
          refine o_call (dst := some 33) (g := 29) (args := [.slice A2 names1.length c3, .int .i64 x32.2]) (by kernel_rfl) (by kernel_rfl) (fun v _ => v = .string r46) (by intro w hst; exact ref10_Text_calls k hst.sat names1 A2 c3 (SlF.le hA4 (fun _ _ h => le41 _ _ (le13 _ _ h))) x32.2 h47) ?_
          rintro _ M48 le49 rfl
          refine dx_know [] (fun _ _ h => le49 _ _ (le41 _ _ h)) (by kernel_rfl) ?_
          obtain ⟨s50, h51, hl18⟩ := bind_t hl18
          refine dx_yld (fuel := 1) (i := 17) [] [true, true, true, true, true, true, true, true, true, true, true, true, true, true, true, true, true, true, false] (by kernel_rfl) (fun _ _ h => le49 _ _ (le41 _ _ h)) (by kernel_rfl) (y_catA (dst := some 34) (a := s44) (b := r46) (by kernel_rfl) h51) (by kernel_rfl) (by kernel_rfl) ?_ rfl
          refine dx_exec (fuel := 0) [] [18] [0, 1, 5, 6] [] [] [true, true, true, true, true, true, true, true, true, true, true, true, true, true, true, true, true, true, true] ⟨[(0, .v (.slice A2 names1.length c3)), (1, .v (.slice A6 l5.length c7)), (5, .v (.string s50)), (6, .v (.int .i64 i15))], [], [], 0⟩ (by kernel_rfl) (fun _ _ h => le49 _ _ (le41 _ _ h)) (by kernel_rfl) (by kernel_rfl) ?_ rfl
          refine d_end (by kernel_rfl) ?_
          refine n_block ?_
          refine n_then ?_
          refine g_region ?_
          refine g_exec 3 [0, 1, 5, 6] [] [] (fun _ => ⟨[(0, .v (.slice A2 names1.length c3)), (1, .v (.slice A6 l5.length c7)), (5, .v (.string s50)), (6, .v (.int .i64 (IntKind.i64.wrap (i15 + 1))))], [], [], 0⟩) (fun _ => by kernel_rfl) fun _ => ?_
          refine g_end (by kernel_rfl) ?_
          refine n_then ?_
          refine g_fin [0, 1, 5, 6] [] [] ⟨[(0, .v (.slice A2 names1.length c3)), (1, .v (.slice A6 l5.length c7)), (5, .v (.string s50)), (6, .v (.int .i64 (IntKind.i64.wrap (i15 + 1))))], [], [], 0⟩ (by kernel_rfl) ?_
          exact g_again q16 ⟨s50, (IntKind.i64.wrap (i15 + 1)), rfl, hl18, (fun _ _ h => le49 _ _ (le41 _ _ (le13 _ _ h)))⟩ (Nat.lt_succ_self _)
        · replace hl18 := if_f (of_decide_eq_false hc27) hl18
          refine g_skip ?_
          refine n_then ?_
          refine d_begin (by kernel_rfl) [] [] 19 (by kernel_rfl) ?_
          refine dx_exec (fuel := 12) [] [0, 1, 2, 3, 10, 11, 12] [0, 1, 5, 6, 17, 18, 19, 20, 27, 28, 29] [] [] [true, true, true, true, false, false, false, false, false, false, true, true, true, false, false, false, false, false, false] ⟨[(0, .v (.slice A2 names1.length c3)), (1, .v (.slice A6 l5.length c7)), (5, .v (.string s14)), (6, .v (.int .i64 i15)), (17, .v (.string s14)), (18, .v (.slice A2 names1.length c3)), (19, .v (.slice A6 l5.length c7)), (20, .v (.int .i64 i15)), (27, .v (.slice A2 names1.length c3)), (28, .v (.slice A6 l5.length c7)), (29, .v (.int .i64 i15))], [], [], 0⟩ (by kernel_rfl) (fun _ _ h => h) (by kernel_rfl) (by kernel_rfl) ?_ rfl
          obtain ⟨x53, h54, hl18⟩ := bind_t hl18
          obtain ⟨b55, o56, _, hA57, rfl, hc58⟩ := SlF.at hA8 h54
          refine dx_yld (fuel := 11) (i := 4) [] [true, true, true, true, true, false, false, false, false, false, true, true, true, false, false, false, false, false, false] (by kernel_rfl) (fun _ _ h => h) (by kernel_rfl) (y_indexA (dst := some 21) (A := A6) (len := l5.length) (kk := .i64) (ii := i15) (sz := 2) (by kernel_rfl) hA57 (xs := l5) rfl h54) (by kernel_rfl) (by kernel_rfl) ?_ rfl
          refine dx_exec (fuel := 10) [] [5] [0, 1, 5, 6, 17, 18, 22, 27, 28, 29] [] [] [true, true, true, true, true, true, false, false, false, false, true, true, true, false, false, false, false, false, false] ⟨[(0, .v (.slice A2 names1.length c3)), (1, .v (.slice A6 l5.length c7)), (5, .v (.string s14)), (6, .v (.int .i64 i15)), (17, .v (.string s14)), (18, .v (.slice A2 names1.length c3)), (22, .v (.pointer (some ⟨b55, o56 + (i15).toNat * 2, none⟩))), (27, .v (.slice A2 names1.length c3)), (28, .v (.slice A6 l5.length c7)), (29, .v (.int .i64 i15))], [], [], 0⟩ (by kernel_rfl) (fun _ _ h => h) (by kernel_rfl) (by kernel_rfl) ?_ rfl
          refine dx_yld (fuel := 9) (i := 6) [] [true, true, true, true, true, true, true, false, false, false, true, true, true, false, false, false, false, false, false] (by kernel_rfl) (fun _ _ h => h) (by kernel_rfl) (y_load1 (dst := some 23) (ad := ⟨b55, o56 + (i15).toNat * 2, none⟩) (sz := 1) (by kernel_rfl) (v := .int .i64 x53.1) (le13 _ _ (hc58 0 _ rfl))) (by kernel_rfl) (by kernel_rfl) ?_ rfl
          refine dx_yld (fuel := 8) (i := 13) [] [true, true, true, true, true, true, true, false, false, false, true, true, true, true, false, false, false, false, false] (by kernel_rfl) (fun _ _ h => h) (by kernel_rfl) (y_indexA (dst := some 30) (A := A6) (len := l5.length) (kk := .i64) (ii := i15) (sz := 2) (by kernel_rfl) hA57 (xs := l5) rfl h54) (by kernel_rfl) (by kernel_rfl) ?_ rfl
          refine dx_exec (fuel := 7) [] [14] [0, 1, 5, 6, 17, 18, 23, 27, 31] [] [] [true, true, true, true, true, true, true, false, false, false, true, true, true, true, true, false, false, false, false] ⟨[(0, .v (.slice A2 names1.length c3)), (1, .v (.slice A6 l5.length c7)), (5, .v (.string s14)), (6, .v (.int .i64 i15)), (17, .v (.string s14)), (18, .v (.slice A2 names1.length c3)), (23, .v (.int .i64 x53.1)), (27, .v (.slice A2 names1.length c3)), (31, .v (.pointer (some ⟨b55, o56 + (i15).toNat * 2 + 1, none⟩)))], [], [], 0⟩ (by kernel_rfl) (fun _ _ h => h) (by kernel_rfl) (by kernel_rfl) ?_ rfl
          refine dx_yld (fuel := 6) (i := 15) [] [true, true, true, true, true, true, true, false, false, false, true, true, true, true, true, true, false, false, false] (by kernel_rfl) (fun _ _ h => h) (by kernel_rfl) (y_load1 (dst := some 32) (ad := ⟨b55, o56 + (i15).toNat * 2 + 1, none⟩) (sz := 1) (by kernel_rfl) (v := .int .i64 x53.2) (le13 _ _ (hc58 1 _ rfl))) (by kernel_rfl) (by kernel_rfl) ?_ rfl
          obtain ⟨r59, h60, hl18⟩ := bind_t hl18
          refine dx_op (fuel := 5) (i := 7) [true, true, true, true, true, true, true, true, false, false, true, true, true, true, true, true, false, false, false] (by kernel_rfl) (by kernel_rfl) ?_ rfl
          refine o_call (dst := some 24) (g := 29) (args := [.slice A2 names1.length c3, .int .i64 x53.1]) (by kernel_rfl) (by kernel_rfl) (fun v _ => v = .string r59) (by intro w hst; exact ref10_Text_calls k hst.sat names1 A2 c3 (SlF.le hA4 le13) x53.1 h60) ?_
          rintro _ M61 le62 rfl
          refine dx_know [] le62 (by kernel_rfl) ?_
          obtain ⟨s63, h64, hl18⟩ := bind_t hl18
          refine dx_yld (fuel := 4) (i := 8) [] [true, true, true, true, true, true, true, true, true, false, true, true, true, true, true, true, false, false, false] (by kernel_rfl) le62 (by kernel_rfl) (y_catA (dst := some 25) (a := s14) (b := r59) (by kernel_rfl) h64) (by kernel_rfl) (by kernel_rfl) ?_ rfl
          obtain ⟨s65, h66, hl18⟩ := bind_t hl18
          refine dx_yld (fuel := 3) (i := 9) [] [true, true, true, true, true, true, true, true, true, true, true, true, true, true, true, true, false, false, false] (by kernel_rfl) le62 (by kernel_rfl) (y_catA (dst := some 26) (a := s63) (b := (⟨#[32, 60, 61, 32]⟩ : ByteArray)) (by kernel_rfl) h66) (by kernel_rfl) (by kernel_rfl) ?_ rfl
          obtain ⟨r67, h68, hl18⟩ := bind_t hl18
          refine dx_op (fuel := 2) (i := 16) [true, true, true, true, true, true, true, true, true, true, true, true, true, true, true, true, true, false, false] (by kernel_rfl) (by kernel_rfl) ?_ rfl
          refine o_call (dst := some 33) (g := 29) (args := [.slice A2 names1.length c3, .int .i64 x53.2]) (by kernel_rfl) (by kernel_rfl) (fun v _ => v = .string r67) (by intro w hst; exact ref10_Text_calls k hst.sat names1 A2 c3 (SlF.le hA4 (fun _ _ h => le62 _ _ (le13 _ _ h))) x53.2 h68) ?_
          rintro _ M69 le70 rfl
          refine dx_know [] (fun _ _ h => le70 _ _ (le62 _ _ h)) (by kernel_rfl) ?_
          obtain ⟨s71, h72, hl18⟩ := bind_t hl18
          refine dx_yld (fuel := 1) (i := 17) [] [true, true, true, true, true, true, true, true, true, true, true, true, true, true, true, true, true, true, false] (by kernel_rfl) (fun _ _ h => le70 _ _ (le62 _ _ h)) (by kernel_rfl) (y_catA (dst := some 34) (a := s65) (b := r67) (by kernel_rfl) h72) (by kernel_rfl) (by kernel_rfl) ?_ rfl
          refine dx_exec (fuel := 0) [] [18] [0, 1, 5, 6] [] [] [true, true, true, true, true, true, true, true, true, true, true, true, true, true, true, true, true, true, true] ⟨[(0, .v (.slice A2 names1.length c3)), (1, .v (.slice A6 l5.length c7)), (5, .v (.string s71)), (6, .v (.int .i64 i15))], [], [], 0⟩ (by kernel_rfl) (fun _ _ h => le70 _ _ (le62 _ _ h)) (by kernel_rfl) (by kernel_rfl) ?_ rfl
          refine d_end (by kernel_rfl) ?_
          refine n_block ?_
          refine n_then ?_
          refine g_region ?_
          refine g_exec 3 [0, 1, 5, 6] [] [] (fun _ => ⟨[(0, .v (.slice A2 names1.length c3)), (1, .v (.slice A6 l5.length c7)), (5, .v (.string s71)), (6, .v (.int .i64 (IntKind.i64.wrap (i15 + 1))))], [], [], 0⟩) (fun _ => by kernel_rfl) fun _ => ?_
          refine g_end (by kernel_rfl) ?_
          refine n_then ?_
          refine g_fin [0, 1, 5, 6] [] [] ⟨[(0, .v (.slice A2 names1.length c3)), (1, .v (.slice A6 l5.length c7)), (5, .v (.string s71)), (6, .v (.int .i64 (IntKind.i64.wrap (i15 + 1))))], [], [], 0⟩ (by kernel_rfl) ?_
          exact g_again q16 ⟨s71, (IntKind.i64.wrap (i15 + 1)), rfl, hl18, (fun _ _ h => le70 _ _ (le62 _ _ (le13 _ _ h)))⟩ (Nat.lt_succ_self _)
      · replace hl18 := if_f (of_decide_eq_false hc25) hl18
        refine g_exit ?_
        refine n_then_exit ?_
        refine n_then_exit ?_
        refine n_block_exit ?_
        refine g_fin [5] [] [] ⟨[(5, .v (.string s14))], [], [], 0⟩ (by kernel_rfl) ?_
        exact n_join ⟨s14, rfl, some_inj hl18, le13⟩
  · rintro M20 _ ⟨s22, rfl, ht17, le21⟩
    subst ht17
    refine n_then ?_
    refine g_seq ?_
    refine g_seq ?_
    refine g_region ?_
    refine g_exec 2 [5, 36] [] [] (fun _ => ⟨[(5, .v (.string s22)), (36, .v (.bool (s22.toList == (⟨#[]⟩ : ByteArray).toList)))], [], [], 0⟩) (fun _ => by kernel_rfl) fun _ => ?_
    refine g_end (by kernel_rfl) ?_
    refine n_then ?_
    refine g_cond ((s22.toList == (⟨#[]⟩ : ByteArray).toList)) (by kernel_rfl) (fun hc75 => ?_) (fun hc75 => ?_)
    · replace h := if_t hc75 h
      refine g_seq ?_
      refine g_region ?_
      refine g_exec 1 [4] [] [] (fun _ => ⟨[(4, .v (.string (⟨#[45]⟩ : ByteArray)))], [], [], 0⟩) (fun _ => by kernel_rfl) fun _ => ?_
      refine g_end (by kernel_rfl) ?_
      refine n_then ?_
      refine g_ret ?_
      refine n_then_ret ?_
      obtain rfl := some_inj h
      exact n_post (.string (⟨#[45]⟩ : ByteArray)) (by kernel_rfl) rfl
    · replace h := if_f (ne_t hc75) h
      refine g_skip ?_
      refine n_then ?_
      refine g_seq ?_
      refine g_region ?_
      refine g_exec 2 [4] [] [] (fun _ => ⟨[(4, .v (.string s22))], [], [], 0⟩) (fun _ => by kernel_rfl) fun _ => ?_
      refine g_end (by kernel_rfl) ?_
      refine n_then ?_
      refine g_ret ?_
      obtain rfl := some_inj h
      exact n_post (.string s22) (by kernel_rfl) rfl
def law10_refPairs_l1 (l1 : List (Int × Int)) : Nat → (List (Int × Int)) → Int → Option ((List (Int × Int)))
  | 0, _, _ => none
  | q + 1, ys37, i43 => (if i43 < (l1.length : Int) then ((idx l1 i43)).bind fun x59 => ((apd 16 ys37 [x59])).bind fun ys66 => law10_refPairs_l1 l1 q ys66 (IntKind.i64.wrap (i43 + 1)) else some ys37)
def law10_refPairs (k : Nat) (l1 : List (Int × Int)) : Option ((List (Int × Int))) := (law10_refPairs_l1 l1 k ([] : List (Int × Int)) 0).bind (fun ys50 => some ys50)
theorem law10_refPairs_calls (k : Nat) {M : Mem} {w : World} (hM : Sat M w) (l1 : List (Int × Int)) (A2 : Option Addr) (c3 : Nat) (hA4 : SlF (fl chP) 2 M A2 l1 c3) {r : (List (Int × Int))} (h : law10_refPairs k l1 = some r) : Ct Tryz.prog 10 [.slice A2 l1.length c3] [] w M (fun v M' => ∃ (A1 : Option Addr) (c2 : Nat), v = .slice A1 r.length c2 ∧ SlF (fl chP) 2 M' A1 r c2) := by
  unfold law10_refPairs at h
  refine enter (n := 26) Tryz.func10 rfl rfl _ (by kernel_rfl) hM ?_
  refine g_seq ?_
  refine g_region ?_
  refine g_exec 1 [0] [] [] (fun _ => ⟨[(0, .v (.slice A2 l1.length c3))], [], [], 0⟩) (fun _ => by kernel_rfl) fun _ => ?_
  refine g_end (by kernel_rfl) ?_
  refine n_then ?_
  refine g_seq ?_
  refine g_region ?_
  refine g_exec 1 [0, 3] [] [] (fun _ => ⟨[(0, .v (.slice A2 l1.length c3)), (3, .v (.slice none 0 0))], [], [], 0⟩) (fun _ => by kernel_rfl) fun _ => ?_
  refine g_end (by kernel_rfl) ?_
  refine n_then ?_
  refine g_seq ?_
  refine g_seq ?_
  refine g_region ?_
  refine g_exec 1 [0, 3, 4] [] [] (fun _ => ⟨[(0, .v (.slice A2 l1.length c3)), (3, .v (.slice none 0 0)), (4, .v (.int .i64 0))], [], [], 0⟩) (fun _ => by kernel_rfl) fun _ => ?_
  refine g_end (by kernel_rfl) ?_
  refine n_then ?_
  refine g_fin [0, 3, 4] [] [] ⟨[(0, .v (.slice A2 l1.length c3)), (3, .v (.slice none 0 0)), (4, .v (.int .i64 0))], [], [], 0⟩ (by kernel_rfl) ?_
  refine g_newrow 0 60 2 (by rfl) ?_
  obtain ⟨t47, h56, h⟩ := bind_t h
  refine g_blockJ (fun M48 s => ∃ (ys50 : List (Int × Int)) (v51 : Value) (n52 : Nat) (cs53 : List Value), s = ⟨[(3, .v (v51))], [], [(0, ⟨v51, 60, 2, n52, cs53⟩)], 0⟩ ∧ Cells ((fl chP) M48) 2 ys50 cs53 ∧ n52 = ys50.length ∧ ys50 = t47 ∧ (∀ a u, M a = some u → M48 a = some u)) ?_ ?_
  · refine g_while (ι := Nat) (fun q44 M35 s => ∃ (ys37 : List (Int × Int)) (v38 : Value) (n39 : Nat) (cs40 : List Value) (i43 : Int), s = ⟨[(0, .v (.slice A2 l1.length c3)), (3, .v (v38)), (4, .v (.int .i64 i43))], [], [(0, ⟨v38, 60, 2, n39, cs40⟩)], 0⟩ ∧ Cells ((fl chP) M35) 2 ys37 cs40 ∧ n39 = ys37.length ∧ law10_refPairs_l1 l1 q44 ys37 i43 = some t47 ∧ (∀ a u, M a = some u → M35 a = some u)) (fun q44 => q44) k ⟨([] : List (Int × Int)), (.slice none 0 0), 0, [], 0, rfl, Cells.nil', rfl, h56, (fun _ _ h => h)⟩ ?_
    rintro q44 M35 _ ⟨ys37, v38, n39, cs40, i43, rfl, hcl41, hn42, hl46, le36⟩
    obtain _ | q44 := q44
    · cases hl46
    · rw [law10_refPairs_l1] at hl46
      refine g_seq ?_
      refine g_seq ?_
      refine g_region ?_
      refine g_exec 4 [0, 3, 4, 8] [] [0] (fun _ => ⟨[(0, .v (.slice A2 l1.length c3)), (3, .v (v38)), (4, .v (.int .i64 i43)), (8, .v (.bool (decide (i43 < (l1.length : Int)))))], [], [(0, ⟨v38, 60, 2, n39, cs40⟩)], 0⟩) (fun _ => by kernel_rfl) fun _ => ?_
      refine g_end (by kernel_rfl) ?_
      refine n_then ?_
      refine g_cond (decide (i43 < (l1.length : Int))) (by kernel_rfl) (fun hc58 => ?_) (fun hc58 => ?_)
      · replace hl46 := if_t (of_decide_eq_true hc58) hl46
        refine g_skip ?_
        refine n_then ?_
        refine g_seq ?_
        refine g_block ?_
        refine d_begin (by kernel_rfl) [] [] 15 (by kernel_rfl) ?_
        refine dx_exec (fuel := 10) [] [0, 1, 2, 6, 7] [0, 3, 4, 11, 12, 13, 17, 18] [] [0] [true, true, true, false, false, false, true, true, false, false, false, false, false, false, false] ⟨[(0, .v (.slice A2 l1.length c3)), (3, .v (v38)), (4, .v (.int .i64 i43)), (11, .v (v38)), (12, .v (.slice A2 l1.length c3)), (13, .v (.int .i64 i43)), (17, .v (.slice A2 l1.length c3)), (18, .v (.int .i64 i43))], [], [(0, ⟨v38, 60, 2, n39, cs40⟩)], 0⟩ (by kernel_rfl) (fun _ _ h => h) (by kernel_rfl) (by kernel_rfl) ?_ rfl
        obtain ⟨x59, h60, hl46⟩ := bind_t hl46
        obtain ⟨b61, o62, _, hA63, rfl, hc64⟩ := SlF.at hA4 h60
        refine dx_yld (fuel := 9) (i := 3) [] [true, true, true, true, false, false, true, true, false, false, false, false, false, false, false] (by kernel_rfl) (fun _ _ h => h) (by kernel_rfl) (y_indexA (dst := some 14) (A := A2) (len := l1.length) (kk := .i64) (ii := i43) (sz := 2) (by kernel_rfl) hA63 (xs := l1) rfl h60) (by kernel_rfl) (by kernel_rfl) ?_ rfl
        refine dx_exec (fuel := 8) [] [4] [0, 3, 4, 11, 15, 17, 18] [] [0] [true, true, true, true, true, false, true, true, false, false, false, false, false, false, false] ⟨[(0, .v (.slice A2 l1.length c3)), (3, .v (v38)), (4, .v (.int .i64 i43)), (11, .v (v38)), (15, .v (.pointer (some ⟨b61, o62 + (i43).toNat * 2, none⟩))), (17, .v (.slice A2 l1.length c3)), (18, .v (.int .i64 i43))], [], [(0, ⟨v38, 60, 2, n39, cs40⟩)], 0⟩ (by kernel_rfl) (fun _ _ h => h) (by kernel_rfl) (by kernel_rfl) ?_ rfl
        refine dx_yld (fuel := 7) (i := 5) [] [true, true, true, true, true, true, true, true, false, false, false, false, false, false, false] (by kernel_rfl) (fun _ _ h => h) (by kernel_rfl) (y_load1 (dst := some 16) (ad := ⟨b61, o62 + (i43).toNat * 2, none⟩) (sz := 1) (by kernel_rfl) (v := .int .i64 x59.1) (le36 _ _ (hc64 0 _ rfl))) (by kernel_rfl) (by kernel_rfl) ?_ rfl
        refine dx_yld (fuel := 6) (i := 8) [] [true, true, true, true, true, true, true, true, true, false, false, false, false, false, false] (by kernel_rfl) (fun _ _ h => h) (by kernel_rfl) (y_indexA (dst := some 19) (A := A2) (len := l1.length) (kk := .i64) (ii := i43) (sz := 2) (by kernel_rfl) hA63 (xs := l1) rfl h60) (by kernel_rfl) (by kernel_rfl) ?_ rfl
        refine dx_exec (fuel := 5) [] [9] [0, 3, 4, 11, 16, 20] [] [0] [true, true, true, true, true, true, true, true, true, true, false, false, false, false, false] ⟨[(0, .v (.slice A2 l1.length c3)), (3, .v (v38)), (4, .v (.int .i64 i43)), (11, .v (v38)), (16, .v (.int .i64 x59.1)), (20, .v (.pointer (some ⟨b61, o62 + (i43).toNat * 2 + 1, none⟩)))], [], [(0, ⟨v38, 60, 2, n39, cs40⟩)], 0⟩ (by kernel_rfl) (fun _ _ h => h) (by kernel_rfl) (by kernel_rfl) ?_ rfl
        refine dx_yld (fuel := 4) (i := 10) [] [true, true, true, true, true, true, true, true, true, true, true, false, false, false, false] (by kernel_rfl) (fun _ _ h => h) (by kernel_rfl) (y_load1 (dst := some 21) (ad := ⟨b61, o62 + (i43).toNat * 2 + 1, none⟩) (sz := 1) (by kernel_rfl) (v := .int .i64 x59.2) (le36 _ _ (hc64 1 _ rfl))) (by kernel_rfl) (by kernel_rfl) ?_ rfl
        refine dx_exec (fuel := 3) [] [11] [0, 3, 4, 11, 22] [] [0] [true, true, true, true, true, true, true, true, true, true, true, true, false, false, false] ⟨[(0, .v (.slice A2 l1.length c3)), (3, .v (v38)), (4, .v (.int .i64 i43)), (11, .v (v38)), (22, .v (.agg #[.int .i64 x59.1, .int .i64 x59.2]))], [], [(0, ⟨v38, 60, 2, n39, cs40⟩)], 0⟩ (by kernel_rfl) (fun _ _ h => h) (by kernel_rfl) (by kernel_rfl) ?_ rfl
        refine dx_op (fuel := 2) (i := 12) [true, true, true, true, true, true, true, true, true, true, true, true, true, false, false] (by kernel_rfl) (by kernel_rfl) ?_ rfl
        refine o_step (used := true) (fun f65 => ⟨[(23, .v (.slice (some ⟨f65, 0, none⟩) 1 1)), (0, .v (.slice A2 l1.length c3)), (3, .v (v38)), (4, .v (.int .i64 i43)), (11, .v (v38)), (22, .v (.agg #[.int .i64 x59.1, .int .i64 x59.2]))], [(0, .cells f65 [.int .i64 x59.1, .int .i64 x59.2] 60)], [(0, ⟨v38, 60, 2, n39, cs40⟩)], 1⟩) rfl (by kernel_rfl) (fun _ => by kernel_rfl) (fun f65 => ?_)
        refine dx_know [] (fun _ _ h => h) (by kernel_rfl) ?_
        obtain ⟨ys66, h72, hl46⟩ := bind_t hl46
        obtain ⟨hcl68, hn69, hb70, hb71⟩ := row_apd (rep := (fl chP) M35) (sz := 2) (d := [.int .i64 x59.1, .int .i64 x59.2]) h72 hcl41 hn42 (Cells.cons (rep := (fl chP) M35) (sz := 2) (x := x59) (c := [.int .i64 x59.1, .int .i64 x59.2]) (rfl) rfl (Cells.nil'))
        refine dx_op (fuel := 1) (i := 13) [true, true, true, true, true, true, true, true, true, true, true, true, true, true, false] (by kernel_rfl) (by kernel_rfl) ?_ rfl
        refine o_append (dst := some 24) 0 0 1 (u := v38) (row := ⟨v38, 60, 2, n39, cs40⟩) (b := f65) (cs := [.int .i64 x59.1, .int .i64 x59.2]) (bytes := 16) (by kernel_rfl) rfl rfl hb70 hb71 ?_
        intro v67
        refine dx_know [] (fun _ _ h => h) (by kernel_rfl) ?_
        refine dx_exec (fuel := 0) [] [14] [0, 3, 4] [] [0] [true, true, true, true, true, true, true, true, true, true, true, true, true, true, true] ⟨[(0, .v (.slice A2 l1.length c3)), (3, .v (v67)), (4, .v (.int .i64 i43))], [], [(0, ⟨v67, 60, 2, n39 + 1, cs40 ++ [.int .i64 x59.1, .int .i64 x59.2]⟩)], 0⟩ (by kernel_rfl) (fun _ _ h => h) (by kernel_rfl) (by kernel_rfl) ?_ rfl
        refine d_end (by kernel_rfl) ?_
        refine n_block ?_
        refine n_then ?_
        refine g_region ?_
        refine g_exec 3 [0, 3, 4] [] [0] (fun _ => ⟨[(0, .v (.slice A2 l1.length c3)), (3, .v (v67)), (4, .v (.int .i64 (IntKind.i64.wrap (i43 + 1))))], [], [(0, ⟨v67, 60, 2, n39 + 1, cs40 ++ [.int .i64 x59.1, .int .i64 x59.2]⟩)], 0⟩) (fun _ => by kernel_rfl) fun _ => ?_
        refine g_end (by kernel_rfl) ?_
        refine n_then ?_
        refine g_fin [0, 3, 4] [] [0] ⟨[(0, .v (.slice A2 l1.length c3)), (3, .v (v67)), (4, .v (.int .i64 (IntKind.i64.wrap (i43 + 1))))], [], [(0, ⟨v67, 60, 2, n39 + 1, cs40 ++ [.int .i64 x59.1, .int .i64 x59.2]⟩)], 0⟩ (by kernel_rfl) ?_
        exact g_again q44 ⟨ys66, v67, (n39 + 1), (cs40 ++ [.int .i64 x59.1, .int .i64 x59.2]), (IntKind.i64.wrap (i43 + 1)), rfl, hcl68, hn69, hl46, le36⟩ (Nat.lt_succ_self _)
      · replace hl46 := if_f (of_decide_eq_false hc58) hl46
        refine g_exit ?_
        refine n_then_exit ?_
        refine n_then_exit ?_
        refine n_block_exit ?_
        refine g_fin [3] [] [0] ⟨[(3, .v (v38))], [], [(0, ⟨v38, 60, 2, n39, cs40⟩)], 0⟩ (by kernel_rfl) ?_
        exact n_join ⟨ys37, v38, n39, cs40, rfl, hcl41, hn42, some_inj hl46, le36⟩
  · rintro M48 _ ⟨ys50, v51, n52, cs53, rfl, hcl54, hn55, ht45, le49⟩
    subst ht45
    refine n_then ?_
    refine g_seq ?_
    refine g_region ?_
    refine g_exec 2 [2] [] [0] (fun _ => ⟨[(2, .v (v51))], [], [(0, ⟨v51, 60, 2, n52, cs53⟩)], 0⟩) (fun _ => by kernel_rfl) fun _ => ?_
    refine g_end (by kernel_rfl) ?_
    refine n_then ?_
    refine g_ret ?_
    refine g_pubS 0 (by rfl) hcl54 hn55 ?_
    intro M75 A76 c77 le78 hv79 hA80
    subst hv79
    obtain rfl := some_inj h
    exact n_post (.slice A76 ys50.length c77) (by kernel_rfl) ⟨_, _, rfl, hA80⟩
def law10_refAtoms_l1 (l1 : List Int) : Nat → (List Int) → Int → Option ((List Int))
  | 0, _, _ => none
  | q + 1, ys41, i47 => (if i47 < (l1.length : Int) then ((idx l1 i47)).bind fun x64 => ((apd 8 ys41 [x64])).bind fun ys74 => law10_refAtoms_l1 l1 q ys74 (IntKind.i64.wrap (i47 + 1)) else some ys41)
def law10_refAtoms (k : Nat) (l1 : List Int) : Option ((List Int)) := (law10_refAtoms_l1 l1 k ([] : List Int) 0).bind (fun ys54 => some ys54)
theorem law10_refAtoms_calls (k : Nat) {M : Mem} {w : World} (hM : Sat M w) (l1 : List Int) (A2 : Option Addr) (c3 : Nat) (hA4 : SlF (fl chI) 1 M A2 l1 c3) {r : (List Int)} (h : law10_refAtoms k l1 = some r) : Ct Tryz.prog 11 [.slice A2 l1.length c3] [] w M (fun v M' => ∃ (A1 : Option Addr) (c2 : Nat), v = .slice A1 r.length c2 ∧ SlF (fl chI) 1 M' A1 r c2) := by
  unfold law10_refAtoms at h
  refine enter (n := 19) Tryz.func11 rfl rfl _ (by kernel_rfl) hM ?_
  refine g_seq ?_
  refine g_region ?_
  refine g_exec 1 [0] [] [] (fun _ => ⟨[(0, .v (.slice A2 l1.length c3))], [], [], 0⟩) (fun _ => by kernel_rfl) fun _ => ?_
  refine g_end (by kernel_rfl) ?_
  refine n_then ?_
  refine g_seq ?_
  refine g_region ?_
  refine g_exec 1 [0, 3] [] [] (fun _ => ⟨[(0, .v (.slice A2 l1.length c3)), (3, .v (.slice none 0 0))], [], [], 0⟩) (fun _ => by kernel_rfl) fun _ => ?_
  refine g_end (by kernel_rfl) ?_
  refine n_then ?_
  refine g_seq ?_
  refine g_seq ?_
  refine g_region ?_
  refine g_exec 1 [0, 3, 4] [] [] (fun _ => ⟨[(0, .v (.slice A2 l1.length c3)), (3, .v (.slice none 0 0)), (4, .v (.int .i64 0))], [], [], 0⟩) (fun _ => by kernel_rfl) fun _ => ?_
  refine g_end (by kernel_rfl) ?_
  refine n_then ?_
  refine g_fin [0, 3, 4] [] [] ⟨[(0, .v (.slice A2 l1.length c3)), (3, .v (.slice none 0 0)), (4, .v (.int .i64 0))], [], [], 0⟩ (by kernel_rfl) ?_
  refine g_newrow 0 3 1 (by rfl) ?_
  obtain ⟨t51, h60, h⟩ := bind_t h
  refine g_blockJ (fun M52 s => ∃ (ys54 : List Int) (v55 : Value) (n56 : Nat) (cs57 : List Value), s = ⟨[(3, .v (v55))], [], [(0, ⟨v55, 3, 1, n56, cs57⟩)], 0⟩ ∧ Cells ((fl chI) M52) 1 ys54 cs57 ∧ n56 = ys54.length ∧ ys54 = t51 ∧ (∀ a u, M a = some u → M52 a = some u)) ?_ ?_
  · refine g_while (ι := Nat) (fun q48 M39 s => ∃ (ys41 : List Int) (v42 : Value) (n43 : Nat) (cs44 : List Value) (i47 : Int), s = ⟨[(0, .v (.slice A2 l1.length c3)), (3, .v (v42)), (4, .v (.int .i64 i47))], [], [(0, ⟨v42, 3, 1, n43, cs44⟩)], 0⟩ ∧ Cells ((fl chI) M39) 1 ys41 cs44 ∧ n43 = ys41.length ∧ law10_refAtoms_l1 l1 q48 ys41 i47 = some t51 ∧ (∀ a u, M a = some u → M39 a = some u)) (fun q48 => q48) k ⟨([] : List Int), (.slice none 0 0), 0, [], 0, rfl, Cells.nil', rfl, h60, (fun _ _ h => h)⟩ ?_
    rintro q48 M39 _ ⟨ys41, v42, n43, cs44, i47, rfl, hcl45, hn46, hl50, le40⟩
    obtain _ | q48 := q48
    · cases hl50
    · rw [law10_refAtoms_l1] at hl50
      refine g_seq ?_
      refine g_seq ?_
      refine g_region ?_
      refine g_exec 4 [0, 3, 4, 8] [] [0] (fun _ => ⟨[(0, .v (.slice A2 l1.length c3)), (3, .v (v42)), (4, .v (.int .i64 i47)), (8, .v (.bool (decide (i47 < (l1.length : Int)))))], [], [(0, ⟨v42, 3, 1, n43, cs44⟩)], 0⟩) (fun _ => by kernel_rfl) fun _ => ?_
      refine g_end (by kernel_rfl) ?_
      refine n_then ?_
      refine g_cond (decide (i47 < (l1.length : Int))) (by kernel_rfl) (fun hc62 => ?_) (fun hc62 => ?_)
      · replace hl50 := if_t (of_decide_eq_true hc62) hl50
        refine g_skip ?_
        refine n_then ?_
        refine g_seq ?_
        refine g_block ?_
        refine g_region ?_
        refine g_exec 3 [0, 3, 4, 11, 12, 13] [] [0] (fun _ => ⟨[(0, .v (.slice A2 l1.length c3)), (3, .v (v42)), (4, .v (.int .i64 i47)), (11, .v (v42)), (12, .v (.slice A2 l1.length c3)), (13, .v (.int .i64 i47))], [], [(0, ⟨v42, 3, 1, n43, cs44⟩)], 0⟩) (fun _ => by kernel_rfl) fun _ => ?_
        obtain ⟨x64, h65, hl50⟩ := bind_t hl50
        obtain ⟨b66, o67, _, hA68, rfl, hc69⟩ := SlF.at hA4 h65
        refine g_yld (y_indexA (dst := some 14) (A := A2) (len := l1.length) (kk := .i64) (ii := i47) (sz := 1) (by kernel_rfl) hA68 (xs := l1) rfl h65) ?_
        refine g_yld (y_load1 (dst := some 15) (ad := ⟨b66, o67 + (i47).toNat * 1, none⟩) (sz := 1) (by kernel_rfl) (v := .int .i64 x64) (le40 _ _ (hc69 0 _ rfl))) ?_
        refine g_step (used := true) (fun f72 => ⟨[(16, .v (.slice (some ⟨f72, 0, none⟩) 1 1)), (15, .v (.int .i64 x64)), (14, .v (.pointer (some ⟨b66, o67 + (i47).toNat * 1, none⟩))), (0, .v (.slice A2 l1.length c3)), (3, .v (v42)), (4, .v (.int .i64 i47)), (11, .v (v42)), (12, .v (.slice A2 l1.length c3)), (13, .v (.int .i64 i47))], [(0, .cells f72 [.int .i64 x64] 3)], [(0, ⟨v42, 3, 1, n43, cs44⟩)], 1⟩) rfl (by kernel_rfl) (fun _ => by kernel_rfl) (fun f72 => ?_)
        obtain ⟨ys74, h80, hl50⟩ := bind_t hl50
        obtain ⟨hcl76, hn77, hb78, hb79⟩ := row_apd (rep := (fl chI) M39) (sz := 1) (d := [.int .i64 x64]) h80 hcl45 hn46 (Cells.cons (rep := (fl chI) M39) (sz := 1) (x := x64) (c := [.int .i64 x64]) (rfl) rfl (Cells.nil'))
        refine g_append (dst := some 17) 0 0 1 (u := v42) (row := ⟨v42, 3, 1, n43, cs44⟩) (b := f72) (cs := [.int .i64 x64]) (bytes := 8) (by kernel_rfl) rfl rfl hb78 hb79 ?_
        intro v75
        refine g_exec 1 [0, 3, 4] [] [0] (fun _ => ⟨[(0, .v (.slice A2 l1.length c3)), (3, .v (v75)), (4, .v (.int .i64 i47))], [], [(0, ⟨v75, 3, 1, n43 + 1, cs44 ++ [.int .i64 x64]⟩)], 0⟩) (fun _ => by kernel_rfl) fun _ => ?_
        refine g_end (by kernel_rfl) ?_
        refine n_block ?_
        refine n_then ?_
        refine g_region ?_
        refine g_exec 3 [0, 3, 4] [] [0] (fun _ => ⟨[(0, .v (.slice A2 l1.length c3)), (3, .v (v75)), (4, .v (.int .i64 (IntKind.i64.wrap (i47 + 1))))], [], [(0, ⟨v75, 3, 1, n43 + 1, cs44 ++ [.int .i64 x64]⟩)], 0⟩) (fun _ => by kernel_rfl) fun _ => ?_
        refine g_end (by kernel_rfl) ?_
        refine n_then ?_
        refine g_fin [0, 3, 4] [] [0] ⟨[(0, .v (.slice A2 l1.length c3)), (3, .v (v75)), (4, .v (.int .i64 (IntKind.i64.wrap (i47 + 1))))], [], [(0, ⟨v75, 3, 1, n43 + 1, cs44 ++ [.int .i64 x64]⟩)], 0⟩ (by kernel_rfl) ?_
        exact g_again q48 ⟨ys74, v75, (n43 + 1), (cs44 ++ [.int .i64 x64]), (IntKind.i64.wrap (i47 + 1)), rfl, hcl76, hn77, hl50, le40⟩ (Nat.lt_succ_self _)
      · replace hl50 := if_f (of_decide_eq_false hc62) hl50
        refine g_exit ?_
        refine n_then_exit ?_
        refine n_then_exit ?_
        refine n_block_exit ?_
        refine g_fin [3] [] [0] ⟨[(3, .v (v42))], [], [(0, ⟨v42, 3, 1, n43, cs44⟩)], 0⟩ (by kernel_rfl) ?_
        exact n_join ⟨ys41, v42, n43, cs44, rfl, hcl45, hn46, some_inj hl50, le40⟩
  · rintro M52 _ ⟨ys54, v55, n56, cs57, rfl, hcl58, hn59, ht49, le53⟩
    subst ht49
    refine n_then ?_
    refine g_seq ?_
    refine g_region ?_
    refine g_exec 2 [2] [] [0] (fun _ => ⟨[(2, .v (v55))], [], [(0, ⟨v55, 3, 1, n56, cs57⟩)], 0⟩) (fun _ => by kernel_rfl) fun _ => ?_
    refine g_end (by kernel_rfl) ?_
    refine n_then ?_
    refine g_ret ?_
    refine g_pubS 0 (by rfl) hcl58 hn59 ?_
    intro M84 A85 c86 le87 hv88 hA89
    subst hv88
    obtain rfl := some_inj h
    exact n_post (.slice A85 ys54.length c86) (by kernel_rfl) ⟨_, _, rfl, hA89⟩
def law10_samePairs_l1 (b5 : List (Int × Int)) (r11 : (List (Int × Int))) : Nat → Int → Option ((Bool) ⊕ (Unit))
  | 0, _ => none
  | q + 1, i25 => (if i25 < (r11.length : Int) then ((idx r11 i25)).bind fun x35 => ((idx b5 i25)).bind fun x41 => (if ((x35.1 == x41.1) && ((x35.2 == x41.2) && true)) = true then law10_samePairs_l1 b5 r11 q (IntKind.i64.wrap (i25 + 1)) else some (.inl false)) else some (.inr ()))
def law10_samePairs (k : Nat) (a1 : List (Int × Int)) (b5 : List (Int × Int)) : Option (Bool) := ((law10_refPairs k a1)).bind fun r11 => (if (r11.length : Int) = (b5.length : Int) then (law10_samePairs_l1 b5 r11 k 0).bind (orOn some (fun _ => some true)) else some false)
theorem law10_samePairs_calls (k : Nat) {M : Mem} {w : World} (hM : Sat M w) (a1 : List (Int × Int)) (A2 : Option Addr) (c3 : Nat) (hA4 : SlF (fl chP) 2 M A2 a1 c3) (b5 : List (Int × Int)) (A6 : Option Addr) (c7 : Nat) (hA8 : SlF (fl chP) 2 M A6 b5 c7) {r : Bool} (h : law10_samePairs k a1 b5 = some r) : Ct Tryz.prog 16 [.slice A2 a1.length c3, .slice A6 b5.length c7] [] w M (fun v _ => v = .bool r) := by
  unfold law10_samePairs at h
  refine enter (n := 29) Tryz.func16 rfl rfl _ (by kernel_rfl) hM ?_
  refine g_seq ?_
  refine g_region ?_
  refine g_exec 1 [0, 1] [] [] (fun _ => ⟨[(0, .v (.slice A2 a1.length c3)), (1, .v (.slice A6 b5.length c7))], [], [], 0⟩) (fun _ => by kernel_rfl) fun _ => ?_
  refine g_end (by kernel_rfl) ?_
  refine n_then ?_
  refine g_seq ?_
  refine g_region ?_
  refine g_exec 1 [1, 7] [] [] (fun _ => ⟨[(1, .v (.slice A6 b5.length c7)), (7, .v (.slice A2 a1.length c3))], [], [], 0⟩) (fun _ => by kernel_rfl) fun _ => ?_
  obtain ⟨r11, h12, h⟩ := bind_t h
  refine g_call (dst := some 8) (g := 10) (args := [.slice A2 a1.length c3]) (by kernel_rfl) (by kernel_rfl) (fun v M' => ∃ (A1 : Option Addr) (c2 : Nat), v = .slice A1 r11.length c2 ∧ SlF (fl chP) 2 M' A1 r11 c2) (by intro w hst; exact law10_refPairs_calls k hst.sat a1 A2 c3 hA4 h12) ?_
  rintro _ M13 le14 ⟨A15, c16, rfl, hA17⟩
  refine g_exec 1 [1, 5] [] [] (fun _ => ⟨[(1, .v (.slice A6 b5.length c7)), (5, .v (.slice A15 r11.length c16))], [], [], 0⟩) (fun _ => by kernel_rfl) fun _ => ?_
  refine g_end (by kernel_rfl) ?_
  refine n_then ?_
  refine g_seq ?_
  refine g_seq ?_
  refine g_region ?_
  refine g_exec 5 [1, 5, 13] [] [] (fun _ => ⟨[(1, .v (.slice A6 b5.length c7)), (5, .v (.slice A15 r11.length c16)), (13, .v (.bool ((r11.length : Int) != (b5.length : Int))))], [], [], 0⟩) (fun _ => by kernel_rfl) fun _ => ?_
  refine g_end (by kernel_rfl) ?_
  refine n_then ?_
  refine g_cond (((r11.length : Int) != (b5.length : Int))) (by kernel_rfl) (fun hc20 => ?_) (fun hc20 => ?_)
  · replace h := if_f (bne_t hc20) h
    refine g_seq ?_
    refine g_region ?_
    refine g_exec 1 [4] [] [] (fun _ => ⟨[(4, .v (.bool false))], [], [], 0⟩) (fun _ => by kernel_rfl) fun _ => ?_
    refine g_end (by kernel_rfl) ?_
    refine n_then ?_
    refine g_ret ?_
    refine n_then_ret ?_
    obtain rfl := some_inj h
    exact n_post (.bool false) (by kernel_rfl) rfl
  · replace h := if_t (bne_f hc20) h
    refine g_skip ?_
    refine n_then ?_
    refine g_seq ?_
    refine g_seq ?_
    refine g_region ?_
    refine g_exec 1 [1, 5, 6] [] [] (fun _ => ⟨[(1, .v (.slice A6 b5.length c7)), (5, .v (.slice A15 r11.length c16)), (6, .v (.int .i64 0))], [], [], 0⟩) (fun _ => by kernel_rfl) fun _ => ?_
    refine g_end (by kernel_rfl) ?_
    refine n_then ?_
    refine g_fin [1, 5, 6] [] [] ⟨[(1, .v (.slice A6 b5.length c7)), (5, .v (.slice A15 r11.length c16)), (6, .v (.int .i64 0))], [], [], 0⟩ (by kernel_rfl) ?_
    obtain ⟨t29, h32, h⟩ := bind_t h
    refine g_blockJ (fun M30 s => s = ⟨[], [], [], 0⟩ ∧ .inr () = t29 ∧ (∀ a u, M13 a = some u → M30 a = some u)) ?_ ?_
    · refine g_while (ι := Nat) (fun q26 M23 s => ∃ (i25 : Int), s = ⟨[(1, .v (.slice A6 b5.length c7)), (5, .v (.slice A15 r11.length c16)), (6, .v (.int .i64 i25))], [], [], 0⟩ ∧ law10_samePairs_l1 b5 r11 q26 i25 = some t29 ∧ (∀ a u, M13 a = some u → M23 a = some u)) (fun q26 => q26) k ⟨0, rfl, h32, (fun _ _ h => h)⟩ ?_
      rintro q26 M23 _ ⟨i25, rfl, hl28, le24⟩
      obtain _ | q26 := q26
      · cases hl28
      · rw [law10_samePairs_l1] at hl28
        refine g_seq ?_
        refine g_seq ?_
        refine g_region ?_
        refine g_exec 4 [1, 5, 6, 17] [] [] (fun _ => ⟨[(1, .v (.slice A6 b5.length c7)), (5, .v (.slice A15 r11.length c16)), (6, .v (.int .i64 i25)), (17, .v (.bool (decide (i25 < (r11.length : Int)))))], [], [], 0⟩) (fun _ => by kernel_rfl) fun _ => ?_
        refine g_end (by kernel_rfl) ?_
        refine n_then ?_
        refine g_cond (decide (i25 < (r11.length : Int))) (by kernel_rfl) (fun hc34 => ?_) (fun hc34 => ?_)
        · replace hl28 := if_t (of_decide_eq_true hc34) hl28
          refine g_skip ?_
          refine n_then ?_
          refine g_seq ?_
          refine g_block ?_
          refine g_seq ?_
          refine d_begin (by kernel_rfl) [] [] 9 (by kernel_rfl) ?_
          refine dx_exec (fuel := 5) [] [0, 1, 4, 5] [1, 5, 6, 20, 21, 24, 25] [] [] [true, true, false, false, true, true, false, false, false] ⟨[(1, .v (.slice A6 b5.length c7)), (5, .v (.slice A15 r11.length c16)), (6, .v (.int .i64 i25)), (20, .v (.slice A15 r11.length c16)), (21, .v (.int .i64 i25)), (24, .v (.slice A6 b5.length c7)), (25, .v (.int .i64 i25))], [], [], 0⟩ (by kernel_rfl) (fun _ _ h => h) (by kernel_rfl) (by kernel_rfl) ?_ rfl
          obtain ⟨x35, h36, hl28⟩ := bind_t hl28
          obtain ⟨b37, o38, _, hA39, rfl, hc40⟩ := SlF.at hA17 h36
          refine dx_yld (fuel := 4) (i := 2) [] [true, true, true, false, true, true, false, false, false] (by kernel_rfl) (fun _ _ h => h) (by kernel_rfl) (y_indexA (dst := some 22) (A := A15) (len := r11.length) (kk := .i64) (ii := i25) (sz := 2) (by kernel_rfl) hA39 (xs := r11) rfl h36) (by kernel_rfl) (by kernel_rfl) ?_ rfl
          refine dx_yld (fuel := 3) (i := 3) [] [true, true, true, true, true, true, false, false, false] (by kernel_rfl) (fun _ _ h => h) (by kernel_rfl) (y_loads (dst := some 23) (b := b37) (o := o38 + (i25).toNat * 2) (sz := 2) (by kernel_rfl) (cs := [.int .i64 x35.1, .int .i64 x35.2]) rfl (fun j v hj => le24 _ _ (hc40 j v hj))) (by kernel_rfl) (by kernel_rfl) ?_ rfl
          obtain ⟨x41, h42, hl28⟩ := bind_t hl28
          obtain ⟨b43, o44, _, hA45, rfl, hc46⟩ := SlF.at hA8 h42
          refine dx_yld (fuel := 2) (i := 6) [] [true, true, true, true, true, true, true, false, false] (by kernel_rfl) (fun _ _ h => h) (by kernel_rfl) (y_indexA (dst := some 26) (A := A6) (len := b5.length) (kk := .i64) (ii := i25) (sz := 2) (by kernel_rfl) hA45 (xs := b5) rfl h42) (by kernel_rfl) (by kernel_rfl) ?_ rfl
          refine dx_yld (fuel := 1) (i := 7) [] [true, true, true, true, true, true, true, true, false] (by kernel_rfl) (fun _ _ h => h) (by kernel_rfl) (y_loads (dst := some 27) (b := b43) (o := o44 + (i25).toNat * 2) (sz := 2) (by kernel_rfl) (cs := [.int .i64 x41.1, .int .i64 x41.2]) rfl (fun j v hj => le24 _ _ (le14 _ _ (hc46 j v hj)))) (by kernel_rfl) (by kernel_rfl) ?_ rfl
          refine dx_yld (fuel := 0) (i := 8) [] [true, true, true, true, true, true, true, true, true] (by kernel_rfl) (fun _ _ h => h) (by kernel_rfl) (y_eq (dst := some 28) (r := !((x35.1 == x41.1) && ((x35.2 == x41.2) && true))) (by kernel_rfl)) (by kernel_rfl) (by kernel_rfl) ?_ rfl
          refine d_end (by kernel_rfl) ?_
          refine n_then ?_
          refine g_cond (!((x35.1 == x41.1) && ((x35.2 == x41.2) && true))) (by kernel_rfl) (fun hc47 => ?_) (fun hc47 => ?_)
          · replace hl28 := if_f (ne_t (bnot_t hc47)) hl28
            refine g_seq ?_
            refine g_region ?_
            refine g_exec 1 [4] [] [] (fun _ => ⟨[(4, .v (.bool false))], [], [], 0⟩) (fun _ => by kernel_rfl) fun _ => ?_
            refine g_end (by kernel_rfl) ?_
            refine n_then ?_
            refine g_ret ?_
            refine n_block_ret ?_
            refine n_then_ret ?_
            refine n_then_ret ?_
            refine n_block_ret ?_
            refine n_qj ?_
            refine n_then_ret ?_
            obtain rfl := some_inj hl28
            replace h := orOn_l h
            obtain rfl := some_inj h
            exact n_post (.bool false) (by kernel_rfl) rfl
          · replace hl28 := if_t (bnot_f hc47) hl28
            refine g_skip ?_
            refine n_block ?_
            refine n_then ?_
            refine g_region ?_
            refine g_exec 3 [1, 5, 6] [] [] (fun _ => ⟨[(1, .v (.slice A6 b5.length c7)), (5, .v (.slice A15 r11.length c16)), (6, .v (.int .i64 (IntKind.i64.wrap (i25 + 1))))], [], [], 0⟩) (fun _ => by kernel_rfl) fun _ => ?_
            refine g_end (by kernel_rfl) ?_
            refine n_then ?_
            refine g_fin [1, 5, 6] [] [] ⟨[(1, .v (.slice A6 b5.length c7)), (5, .v (.slice A15 r11.length c16)), (6, .v (.int .i64 (IntKind.i64.wrap (i25 + 1))))], [], [], 0⟩ (by kernel_rfl) ?_
            exact g_again q26 ⟨(IntKind.i64.wrap (i25 + 1)), rfl, hl28, le24⟩ (Nat.lt_succ_self _)
        · replace hl28 := if_f (of_decide_eq_false hc34) hl28
          refine g_exit ?_
          refine n_then_exit ?_
          refine n_then_exit ?_
          refine n_block_exit ?_
          refine g_fin [] [] [] ⟨[], [], [], 0⟩ (by kernel_rfl) ?_
          exact n_join ⟨rfl, some_inj hl28, le24⟩
    · rintro M30 _ ⟨rfl, ht27, le31⟩
      subst ht27
      replace h := orOn_r h
      refine n_then ?_
      refine g_seq ?_
      refine g_region ?_
      refine g_exec 1 [4] [] [] (fun _ => ⟨[(4, .v (.bool true))], [], [], 0⟩) (fun _ => by kernel_rfl) fun _ => ?_
      refine g_end (by kernel_rfl) ?_
      refine n_then ?_
      refine g_ret ?_
      obtain rfl := some_inj h
      exact n_post (.bool true) (by kernel_rfl) rfl
def law10_same_l1 (a1 : List (Int × Int)) (b5 : List (Int × Int)) : Nat → Int → Option ((Bool) ⊕ (Unit))
  | 0, _ => none
  | q + 1, i16 => (if i16 < (a1.length : Int) then ((idx a1 i16)).bind fun x26 => ((idx b5 i16)).bind fun x32 => (if ((x26.1 == x32.1) && ((x26.2 == x32.2) && true)) = true then law10_same_l1 a1 b5 q (IntKind.i64.wrap (i16 + 1)) else some (.inl false)) else some (.inr ()))
def law10_same (k : Nat) (a1 : List (Int × Int)) (b5 : List (Int × Int)) : Option (Bool) := (if (a1.length : Int) = (b5.length : Int) then (law10_same_l1 a1 b5 k 0).bind (orOn some (fun _ => some true)) else some false)
theorem law10_same_calls (k : Nat) {M : Mem} {w : World} (hM : Sat M w) (a1 : List (Int × Int)) (A2 : Option Addr) (c3 : Nat) (hA4 : SlF (fl chP) 2 M A2 a1 c3) (b5 : List (Int × Int)) (A6 : Option Addr) (c7 : Nat) (hA8 : SlF (fl chP) 2 M A6 b5 c7) {r : Bool} (h : law10_same k a1 b5 = some r) : Ct Tryz.prog 32 [.slice A2 a1.length c3, .slice A6 b5.length c7] [] w M (fun v _ => v = .bool r) := by
  unfold law10_same at h
  refine enter (n := 26) Tryz.func32 rfl rfl _ (by kernel_rfl) hM ?_
  refine g_seq ?_
  refine g_region ?_
  refine g_exec 1 [0, 1] [] [] (fun _ => ⟨[(0, .v (.slice A2 a1.length c3)), (1, .v (.slice A6 b5.length c7))], [], [], 0⟩) (fun _ => by kernel_rfl) fun _ => ?_
  refine g_end (by kernel_rfl) ?_
  refine n_then ?_
  refine g_seq ?_
  refine g_seq ?_
  refine g_region ?_
  refine g_exec 5 [0, 1, 10] [] [] (fun _ => ⟨[(0, .v (.slice A2 a1.length c3)), (1, .v (.slice A6 b5.length c7)), (10, .v (.bool ((a1.length : Int) != (b5.length : Int))))], [], [], 0⟩) (fun _ => by kernel_rfl) fun _ => ?_
  refine g_end (by kernel_rfl) ?_
  refine n_then ?_
  refine g_cond (((a1.length : Int) != (b5.length : Int))) (by kernel_rfl) (fun hc11 => ?_) (fun hc11 => ?_)
  · replace h := if_f (bne_t hc11) h
    refine g_seq ?_
    refine g_region ?_
    refine g_exec 1 [4] [] [] (fun _ => ⟨[(4, .v (.bool false))], [], [], 0⟩) (fun _ => by kernel_rfl) fun _ => ?_
    refine g_end (by kernel_rfl) ?_
    refine n_then ?_
    refine g_ret ?_
    refine n_then_ret ?_
    obtain rfl := some_inj h
    exact n_post (.bool false) (by kernel_rfl) rfl
  · replace h := if_t (bne_f hc11) h
    refine g_skip ?_
    refine n_then ?_
    refine g_seq ?_
    refine g_seq ?_
    refine g_region ?_
    refine g_exec 1 [0, 1, 5] [] [] (fun _ => ⟨[(0, .v (.slice A2 a1.length c3)), (1, .v (.slice A6 b5.length c7)), (5, .v (.int .i64 0))], [], [], 0⟩) (fun _ => by kernel_rfl) fun _ => ?_
    refine g_end (by kernel_rfl) ?_
    refine n_then ?_
    refine g_fin [0, 1, 5] [] [] ⟨[(0, .v (.slice A2 a1.length c3)), (1, .v (.slice A6 b5.length c7)), (5, .v (.int .i64 0))], [], [], 0⟩ (by kernel_rfl) ?_
    obtain ⟨t20, h23, h⟩ := bind_t h
    refine g_blockJ (fun M21 s => s = ⟨[], [], [], 0⟩ ∧ .inr () = t20 ∧ (∀ a u, M a = some u → M21 a = some u)) ?_ ?_
    · refine g_while (ι := Nat) (fun q17 M14 s => ∃ (i16 : Int), s = ⟨[(0, .v (.slice A2 a1.length c3)), (1, .v (.slice A6 b5.length c7)), (5, .v (.int .i64 i16))], [], [], 0⟩ ∧ law10_same_l1 a1 b5 q17 i16 = some t20 ∧ (∀ a u, M a = some u → M14 a = some u)) (fun q17 => q17) k ⟨0, rfl, h23, (fun _ _ h => h)⟩ ?_
      rintro q17 M14 _ ⟨i16, rfl, hl19, le15⟩
      obtain _ | q17 := q17
      · cases hl19
      · rw [law10_same_l1] at hl19
        refine g_seq ?_
        refine g_seq ?_
        refine g_region ?_
        refine g_exec 4 [0, 1, 5, 14] [] [] (fun _ => ⟨[(0, .v (.slice A2 a1.length c3)), (1, .v (.slice A6 b5.length c7)), (5, .v (.int .i64 i16)), (14, .v (.bool (decide (i16 < (a1.length : Int)))))], [], [], 0⟩) (fun _ => by kernel_rfl) fun _ => ?_
        refine g_end (by kernel_rfl) ?_
        refine n_then ?_
        refine g_cond (decide (i16 < (a1.length : Int))) (by kernel_rfl) (fun hc25 => ?_) (fun hc25 => ?_)
        · replace hl19 := if_t (of_decide_eq_true hc25) hl19
          refine g_skip ?_
          refine n_then ?_
          refine g_seq ?_
          refine g_block ?_
          refine g_seq ?_
          refine d_begin (by kernel_rfl) [] [] 9 (by kernel_rfl) ?_
          refine dx_exec (fuel := 5) [] [0, 1, 4, 5] [0, 1, 5, 17, 18, 21, 22] [] [] [true, true, false, false, true, true, false, false, false] ⟨[(0, .v (.slice A2 a1.length c3)), (1, .v (.slice A6 b5.length c7)), (5, .v (.int .i64 i16)), (17, .v (.slice A2 a1.length c3)), (18, .v (.int .i64 i16)), (21, .v (.slice A6 b5.length c7)), (22, .v (.int .i64 i16))], [], [], 0⟩ (by kernel_rfl) (fun _ _ h => h) (by kernel_rfl) (by kernel_rfl) ?_ rfl
          obtain ⟨x26, h27, hl19⟩ := bind_t hl19
          obtain ⟨b28, o29, _, hA30, rfl, hc31⟩ := SlF.at hA4 h27
          refine dx_yld (fuel := 4) (i := 2) [] [true, true, true, false, true, true, false, false, false] (by kernel_rfl) (fun _ _ h => h) (by kernel_rfl) (y_indexA (dst := some 19) (A := A2) (len := a1.length) (kk := .i64) (ii := i16) (sz := 2) (by kernel_rfl) hA30 (xs := a1) rfl h27) (by kernel_rfl) (by kernel_rfl) ?_ rfl
          refine dx_yld (fuel := 3) (i := 3) [] [true, true, true, true, true, true, false, false, false] (by kernel_rfl) (fun _ _ h => h) (by kernel_rfl) (y_loads (dst := some 20) (b := b28) (o := o29 + (i16).toNat * 2) (sz := 2) (by kernel_rfl) (cs := [.int .i64 x26.1, .int .i64 x26.2]) rfl (fun j v hj => le15 _ _ (hc31 j v hj))) (by kernel_rfl) (by kernel_rfl) ?_ rfl
          obtain ⟨x32, h33, hl19⟩ := bind_t hl19
          obtain ⟨b34, o35, _, hA36, rfl, hc37⟩ := SlF.at hA8 h33
          refine dx_yld (fuel := 2) (i := 6) [] [true, true, true, true, true, true, true, false, false] (by kernel_rfl) (fun _ _ h => h) (by kernel_rfl) (y_indexA (dst := some 23) (A := A6) (len := b5.length) (kk := .i64) (ii := i16) (sz := 2) (by kernel_rfl) hA36 (xs := b5) rfl h33) (by kernel_rfl) (by kernel_rfl) ?_ rfl
          refine dx_yld (fuel := 1) (i := 7) [] [true, true, true, true, true, true, true, true, false] (by kernel_rfl) (fun _ _ h => h) (by kernel_rfl) (y_loads (dst := some 24) (b := b34) (o := o35 + (i16).toNat * 2) (sz := 2) (by kernel_rfl) (cs := [.int .i64 x32.1, .int .i64 x32.2]) rfl (fun j v hj => le15 _ _ (hc37 j v hj))) (by kernel_rfl) (by kernel_rfl) ?_ rfl
          refine dx_yld (fuel := 0) (i := 8) [] [true, true, true, true, true, true, true, true, true] (by kernel_rfl) (fun _ _ h => h) (by kernel_rfl) (y_eq (dst := some 25) (r := !((x26.1 == x32.1) && ((x26.2 == x32.2) && true))) (by kernel_rfl)) (by kernel_rfl) (by kernel_rfl) ?_ rfl
          refine d_end (by kernel_rfl) ?_
          refine n_then ?_
          refine g_cond (!((x26.1 == x32.1) && ((x26.2 == x32.2) && true))) (by kernel_rfl) (fun hc38 => ?_) (fun hc38 => ?_)
          · replace hl19 := if_f (ne_t (bnot_t hc38)) hl19
            refine g_seq ?_
            refine g_region ?_
            refine g_exec 1 [4] [] [] (fun _ => ⟨[(4, .v (.bool false))], [], [], 0⟩) (fun _ => by kernel_rfl) fun _ => ?_
            refine g_end (by kernel_rfl) ?_
            refine n_then ?_
            refine g_ret ?_
            refine n_block_ret ?_
            refine n_then_ret ?_
            refine n_then_ret ?_
            refine n_block_ret ?_
            refine n_qj ?_
            refine n_then_ret ?_
            obtain rfl := some_inj hl19
            replace h := orOn_l h
            obtain rfl := some_inj h
            exact n_post (.bool false) (by kernel_rfl) rfl
          · replace hl19 := if_t (bnot_f hc38) hl19
            refine g_skip ?_
            refine n_block ?_
            refine n_then ?_
            refine g_region ?_
            refine g_exec 3 [0, 1, 5] [] [] (fun _ => ⟨[(0, .v (.slice A2 a1.length c3)), (1, .v (.slice A6 b5.length c7)), (5, .v (.int .i64 (IntKind.i64.wrap (i16 + 1))))], [], [], 0⟩) (fun _ => by kernel_rfl) fun _ => ?_
            refine g_end (by kernel_rfl) ?_
            refine n_then ?_
            refine g_fin [0, 1, 5] [] [] ⟨[(0, .v (.slice A2 a1.length c3)), (1, .v (.slice A6 b5.length c7)), (5, .v (.int .i64 (IntKind.i64.wrap (i16 + 1))))], [], [], 0⟩ (by kernel_rfl) ?_
            exact g_again q17 ⟨(IntKind.i64.wrap (i16 + 1)), rfl, hl19, le15⟩ (Nat.lt_succ_self _)
        · replace hl19 := if_f (of_decide_eq_false hc25) hl19
          refine g_exit ?_
          refine n_then_exit ?_
          refine n_then_exit ?_
          refine n_block_exit ?_
          refine g_fin [] [] [] ⟨[], [], [], 0⟩ (by kernel_rfl) ?_
          exact n_join ⟨rfl, some_inj hl19, le15⟩
    · rintro M21 _ ⟨rfl, ht18, le22⟩
      subst ht18
      replace h := orOn_r h
      refine n_then ?_
      refine g_seq ?_
      refine g_region ?_
      refine g_exec 1 [4] [] [] (fun _ => ⟨[(4, .v (.bool true))], [], [], 0⟩) (fun _ => by kernel_rfl) fun _ => ?_
      refine g_end (by kernel_rfl) ?_
      refine n_then ?_
      refine g_ret ?_
      obtain rfl := some_inj h
      exact n_post (.bool true) (by kernel_rfl) rfl
end Go.Ch
