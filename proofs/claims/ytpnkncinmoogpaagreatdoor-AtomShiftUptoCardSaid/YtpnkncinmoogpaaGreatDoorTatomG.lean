import Derived.Test.YtpnkncinmoogpaaGreatDoorTatomF
set_option linter.unusedVariables false
namespace Go.Ch
open Go Go.Eng Go.Proofs
theorem ptOf_eq {a : Int} (h0 : -9223372036854775808 ≤ a) (h1 : a ≤ 9223372036854775807) : ptOf a = if a < 0 then -1 - a else -1 := by
  unfold ptOf; rw [notI_eq a h0 h1]
  split <;> split <;> omega
theorem isPt_ptOf {a : Int} (h0 : -9223372036854775808 ≤ a) (h1 : a ≤ 9223372036854775807) : (isPt a == decide (ptOf a ≥ 0)) = true := by
  rw [ptOf_eq h0 h1]
  by_cases h : a < 0
  · rw [if_pos h]
    have h2 : (-1 - a : Int) ≥ 0 := by omega
    simp [isPt, h]; omega
  · rw [if_neg h]; simp [isPt, h]
theorem pointA_ptOf {a : Int} (h : isPt a = true) (h0 : -9223372036854775808 ≤ a) (h1 : a ≤ 9223372036854775807) : pointA (ptOf a) = a := by
  have h2 := of_decide_eq_true (show decide (a < 0) = true from h)
  rw [ptOf_eq h0 h1, if_pos h2, pointA, if_neg (by omega), notI_eq _ (by omega) (by omega)]; omega

theorem atomPoints_calls {M : Mem} {w : World} (hM : Sat M w) (hT : TabW w) (p a : Int) (hp0 : 0 ≤ p) (hp1 : p ≤ 4294967295) (h0 : -9223372036854775808 ≤ a) (h1 : a ≤ 9223372036854775807) : Ct Tryz.prog 4 [.int .u32 p, .int .i64 a] [] w M (fun v _ => v = .bool true) := by
  have hw : IntKind.i64.wrap p = p := IntWalk.i64_in _ (by omega)
  have hx : pointA (IntKind.i64.wrap p) = -1 - p := by rw [hw, pointA, if_neg (by omega), notI_eq _ (by omega) (by omega)]
  have hpt : isPt (-1 - p) = true := decide_eq_true (by omega)
  have hpo : ptOf (-1 - p) = IntKind.i64.wrap p := by rw [hw, ptOf, notI_eq _ (by omega) (by omega), if_neg (by omega)]; omega
  have hiff : (isPt a == decide (ptOf a ≥ 0)) = true := isPt_ptOf h0 h1
  refine enter (n := 49) Tryz.func4 rfl rfl _ (by kernel_rfl) hM ?_
  refine g_seq ?_
  refine g_region ?_
  refine g_exec 1 [0, 1, 4] [] [] (fun _ => ⟨[(0, .v (.int .u32 p)), (1, .v (.int .i64 a)), (4, .v (.bool false))], [], [], 0⟩) (fun _ => by kernel_rfl) fun _ => ?_
  refine g_end (by kernel_rfl) ?_
  refine n_then ?_
  refine g_seq ?_
  refine g_region ?_
  refine g_call (dst := some 7) (g := 9) (args := []) (by kernel_rfl) (by kernel_rfl) (fun v _ => v = .bool true) (by intro w hst; exact examples_calls hst.sat (hT.ext hst.ext0)) ?_
  rintro _ M3 le4 rfl
  refine g_exec 1 [0, 1, 4, 5] [] [] (fun _ => ⟨[(0, .v (.int .u32 p)), (1, .v (.int .i64 a)), (4, .v (.bool false)), (5, .v (.bool true))], [], [], 0⟩) (fun _ => by kernel_rfl) fun _ => ?_
  refine g_end (by kernel_rfl) ?_
  refine n_then ?_
  refine g_seq ?_
  refine g_seq ?_
  refine g_region ?_
  refine g_exec 2 [0, 1, 4, 5, 9] [] [] (fun _ => ⟨[(0, .v (.int .u32 p)), (1, .v (.int .i64 a)), (4, .v (.bool false)), (5, .v (.bool true)), (9, .v (.bool false))], [], [], 0⟩) (fun _ => by kernel_rfl) fun _ => ?_
  refine g_end (by kernel_rfl) ?_
  refine n_then ?_
  refine g_cond false (by kernel_rfl) (fun hc => ?_) (fun hc => ?_)
  · cases hc
  · refine g_skip ?_
    refine n_then ?_
    refine g_seq ?_
    refine g_region ?_
    refine g_exec 2 [0, 1, 4, 5, 11] [] [] (fun _ => ⟨[(0, .v (.int .u32 p)), (1, .v (.int .i64 a)), (4, .v (.bool false)), (5, .v (.bool true)), (11, .v (.int .i64 (IntKind.i64.wrap p)))], [], [], 0⟩) (fun _ => by kernel_rfl) fun _ => ?_
    refine g_call (dst := some 12) (g := 23) (args := [.int .i64 (IntKind.i64.wrap p)]) (by kernel_rfl) (by kernel_rfl) (fun v _ => v = .int .i64 (-1 - p)) (by intro w hst; exact (by have h := point_calls hst.sat (IntKind.i64.wrap p); rw [hx] at h; exact h)) ?_
    rintro _ M8 le9 rfl
    refine g_exec 1 [0, 1, 4, 5, 6] [] [] (fun _ => ⟨[(0, .v (.int .u32 p)), (1, .v (.int .i64 a)), (4, .v (.bool false)), (5, .v (.bool true)), (6, .v (.int .i64 (-1 - p)))], [], [], 0⟩) (fun _ => by kernel_rfl) fun _ => ?_
    refine g_end (by kernel_rfl) ?_
    refine n_then ?_
    refine g_seq ?_
    refine g_region ?_
    refine g_exec 3 [0, 1, 4, 6, 14, 15] [] [] (fun _ => ⟨[(0, .v (.int .u32 p)), (1, .v (.int .i64 a)), (4, .v (.bool false)), (6, .v (.int .i64 (-1 - p))), (14, .v (.bool true)), (15, .v (.int .i64 (-1 - p)))], [], [], 0⟩) (fun _ => by kernel_rfl) fun _ => ?_
    refine g_call (dst := some 16) (g := 27) (args := [.int .i64 (-1 - p)]) (by kernel_rfl) (by kernel_rfl) (fun v _ => v = .bool true) (by intro w hst; exact (by have h := isPoint_calls hst.sat (-1 - p); rw [hpt] at h; exact h)) ?_
    rintro _ M12 le13 rfl
    refine g_exec 3 [0, 1, 4, 18, 19] [] [] (fun _ => ⟨[(0, .v (.int .u32 p)), (1, .v (.int .i64 a)), (4, .v (.bool false)), (18, .v (.bool true)), (19, .v (.int .i64 (-1 - p)))], [], [], 0⟩) (fun _ => by kernel_rfl) fun _ => ?_
    refine g_call (dst := some 20) (g := 25) (args := [.int .i64 (-1 - p)]) (by kernel_rfl) (by kernel_rfl) (fun v _ => v = .int .i64 (IntKind.i64.wrap p)) (by intro w hst; exact (by have h := pointOf_calls hst.sat (-1 - p); rw [hpo] at h; exact h)) ?_
    rintro _ M15 le16 rfl
    refine g_exec 5 [1, 4, 25] [] [] (fun _ => ⟨[(1, .v (.int .i64 a)), (4, .v (.bool false)), (25, .v (.bool ((IntKind.i64.wrap p) == (IntKind.i64.wrap p))))], [], [], 0⟩) (fun _ => by kernel_rfl) fun _ => ?_
    refine g_bool 25 (((IntKind.i64.wrap p) == (IntKind.i64.wrap p))) (by kernel_rfl) (fun hc18 => ?_) (fun hc18 => ?_)
    · refine g_exec 1 [1, 4, 25, 26] [] [] (fun _ => ⟨[(1, .v (.int .i64 a)), (4, .v (.bool false)), (25, .v (.bool true)), (26, .v (.int .i64 a))], [], [], 0⟩) (fun _ => by kernel_rfl) fun _ => ?_
      refine g_call (dst := some 27) (g := 27) (args := [.int .i64 a]) (by kernel_rfl) (by kernel_rfl) (fun v _ => v = .bool (isPt a)) (by intro w hst; exact isPoint_calls hst.sat a) ?_
      rintro _ M20 le21 rfl
      refine g_exec 1 [1, 4, 25, 27, 28] [] [] (fun _ => ⟨[(1, .v (.int .i64 a)), (4, .v (.bool false)), (25, .v (.bool true)), (27, .v (.bool (isPt a))), (28, .v (.int .i64 a))], [], [], 0⟩) (fun _ => by kernel_rfl) fun _ => ?_
      refine g_call (dst := some 29) (g := 25) (args := [.int .i64 a]) (by kernel_rfl) (by kernel_rfl) (fun v _ => v = .int .i64 (ptOf a)) (by intro w hst; exact pointOf_calls hst.sat a) ?_
      rintro _ M23 le24 rfl
      refine g_exec 4 [1, 4, 33] [] [] (fun _ => ⟨[(1, .v (.int .i64 a)), (4, .v (.bool false)), (33, .v (.bool ((isPt a) == (decide ((ptOf a) ≥ 0)))))], [], [], 0⟩) (fun _ => by kernel_rfl) fun _ => ?_
      refine g_bool 33 (((isPt a) == (decide ((ptOf a) ≥ 0)))) (by kernel_rfl) (fun hc26 => ?_) (fun hc26 => ?_)
      · refine g_exec 1 [1, 4, 33, 34] [] [] (fun _ => ⟨[(1, .v (.int .i64 a)), (4, .v (.bool false)), (33, .v (.bool true)), (34, .v (.int .i64 a))], [], [], 0⟩) (fun _ => by kernel_rfl) fun _ => ?_
        refine g_call (dst := some 35) (g := 27) (args := [.int .i64 a]) (by kernel_rfl) (by kernel_rfl) (fun v _ => v = .bool (isPt a)) (by intro w hst; exact isPoint_calls hst.sat a) ?_
        rintro _ M28 le29 rfl
        refine g_exec 2 [1, 4, 33, 37] [] [] (fun _ => ⟨[(1, .v (.int .i64 a)), (4, .v (.bool false)), (33, .v (.bool true)), (37, .v (.bool (!(isPt a))))], [], [], 0⟩) (fun _ => by kernel_rfl) fun _ => ?_
        refine g_bool 37 (!(isPt a)) (by kernel_rfl) (fun hc31 => ?_) (fun hc31 => ?_)
        · refine g_exec 8 [4, 45] [] [] (fun _ => ⟨[(4, .v (.bool false)), (45, .v (.bool true))], [], [], 0⟩) (fun _ => by kernel_rfl) fun _ => ?_
          refine g_call (dst := some 46) (g := 23) (args := [.int .i64 (-1)]) (by kernel_rfl) (by kernel_rfl) (fun v _ => v = .int .i64 0) (by intro w hst; exact (by have h := point_calls hst.sat (-1); rw [show pointA (-1) = 0 from by decide] at h; exact h)) ?_
          rintro _ M33 le34 rfl
          refine g_exec 3 [4] [] [] (fun _ => ⟨[(4, .v (.bool true))], [], [], 0⟩) (fun _ => by kernel_rfl) fun _ => ?_
          refine g_end (by kernel_rfl) ?_
          refine n_then ?_
          refine g_ret ?_
          exact n_post (.bool true) (by kernel_rfl) rfl
        · refine g_exec 1 [1, 4, 33, 37, 38] [] [] (fun _ => ⟨[(1, .v (.int .i64 a)), (4, .v (.bool false)), (33, .v (.bool true)), (37, .v (.bool false)), (38, .v (.int .i64 a))], [], [], 0⟩) (fun _ => by kernel_rfl) fun _ => ?_
          refine g_call (dst := some 39) (g := 25) (args := [.int .i64 a]) (by kernel_rfl) (by kernel_rfl) (fun v _ => v = .int .i64 (ptOf a)) (by intro w hst; exact pointOf_calls hst.sat a) ?_
          rintro _ M37 le38 rfl
          refine g_call (dst := some 40) (g := 23) (args := [.int .i64 (ptOf a)]) (by kernel_rfl) (by kernel_rfl) (fun v _ => v = .int .i64 a) (by intro w hst; exact (by have h := point_calls hst.sat (ptOf a); rw [pointA_ptOf (by simpa using hc31) h0 h1] at h; exact h)) ?_
          rintro _ M40 le41 rfl
          refine g_exec 5 [4, 45] [] [] (fun _ => ⟨[(4, .v (.bool false)), (45, .v (.bool (a == a)))], [], [], 0⟩) (fun _ => by kernel_rfl) fun _ => ?_
          refine g_bool 45 ((a == a)) (by kernel_rfl) (fun hc43 => ?_) (fun hc43 => ?_)
          · refine g_call (dst := some 46) (g := 23) (args := [.int .i64 (-1)]) (by kernel_rfl) (by kernel_rfl) (fun v _ => v = .int .i64 0) (by intro w hst; exact (by have h := point_calls hst.sat (-1); rw [show pointA (-1) = 0 from by decide] at h; exact h)) ?_
            rintro _ M45 le46 rfl
            refine g_exec 3 [4] [] [] (fun _ => ⟨[(4, .v (.bool true))], [], [], 0⟩) (fun _ => by kernel_rfl) fun _ => ?_
            refine g_end (by kernel_rfl) ?_
            refine n_then ?_
            refine g_ret ?_
            exact n_post (.bool true) (by kernel_rfl) rfl
          · simp at hc43
      · exact absurd hiff (by first | (rw [hc26]; decide) | (simp; done) | (rw [beq_self_eq_true]; decide))
    · simp at hc18
end Go.Ch
