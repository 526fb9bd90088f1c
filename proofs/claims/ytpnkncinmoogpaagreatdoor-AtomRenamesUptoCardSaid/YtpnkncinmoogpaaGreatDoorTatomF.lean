import Derived.Test.YtpnkncinmoogpaaGreatDoorTExam
set_option linter.unusedVariables false
namespace Go.Ch
open Go Go.Eng Go.Proofs
theorem ex_ns : ∀ x ∈ ([⟨#[76, 111]⟩, ⟨#[72, 105]⟩] : List ByteArray), x.size ≤ 1048576 := by
  intro x hx
  rcases List.mem_cons.1 hx with rfl | hx
  · decide
  · rcases List.mem_singleton.1 hx with rfl; decide
theorem ex_rg : ∀ p ∈ ([(-2, 3), (3, 0)] : List (Int × Int)), (-9223372036854775808 ≤ p.1 ∧ p.1 ≤ 9223372036854775807) ∧ (-9223372036854775808 ≤ p.2 ∧ p.2 ≤ 9223372036854775807) := by
  intro p hp
  rcases List.mem_cons.1 hp with rfl | hp
  · simp
  · rcases List.mem_singleton.1 hp with rfl; simp

theorem examples_calls {M : Mem} {w : World} (hM : Sat M w) (hT : TabW w) : Ct Tryz.prog 9 [] [] w M (fun v _ => v = .bool true) := by
  refine enter (n := 135) Tryz.func9 rfl rfl _ (by kernel_rfl) hM ?_
  refine g_seq ?_
  refine g_region ?_
  refine g_exec 1 [0] [] [] (fun _ => ⟨[(0, .v (.bool false))], [], [], 0⟩) (fun _ => by kernel_rfl) fun _ => ?_
  refine g_end (by kernel_rfl) ?_
  refine n_then ?_
  refine g_seq ?_
  refine g_region ?_
  refine g_call (dst := some 7) (g := 23) (args := [.int .i64 1]) (by kernel_rfl) (by kernel_rfl) (fun v _ => v = .int .i64 (-2)) (by intro w hst; exact (by have h := point_calls hst.sat 1; rw [ex_point] at h; exact h)) ?_
  rintro _ M3 le4 rfl
  refine g_exec 1 [0, 1] [] [] (fun _ => ⟨[(0, .v (.bool false)), (1, .v (.int .i64 (-2)))], [], [], 0⟩) (fun _ => by kernel_rfl) fun _ => ?_
  refine g_end (by kernel_rfl) ?_
  refine n_then ?_
  refine g_seq ?_
  refine g_region ?_
  refine g_exec 6 [0, 1, 13] [0] [] (fun f6 => ⟨[(0, .v (.bool false)), (1, .v (.int .i64 (-2))), (13, .v (.slice (some ⟨(f6 5), 0, none⟩) 4 4))], [(0, .cells (f6 5) [.int .i64 3, .int .i64 0, .int .i64 2, .int .i64 2, .int .i64 (-2), .int .i64 3, .int .i64 3, .int .i64 0] 53)], [], 1⟩) (fun _ => by kernel_rfl) fun f6 => ?_
  refine g_pubL 0 (b := (f6 5)) (t := 53) (cs := [.int .i64 3, .int .i64 0, .int .i64 2, .int .i64 2, .int .i64 (-2), .int .i64 3, .int .i64 3, .int .i64 0]) (by rfl) ?_
  intro M7 le8 hp9
  have hl1 := row_pubL (enc := chP) (sz := 2) (fun _ => rfl) [(3, 0), (2, 2), (-2, 3), (3, 0)] [] hp9
  refine g_call (dst := some 14) (g := 17) (args := [.slice (some ⟨(f6 5), 0, none⟩) 4 4]) (by kernel_rfl) (by kernel_rfl) (SlV chP 2 [(-2, 3), (3, 0)]) (by intro w hst; exact (by have h := norm_calls hst.sat [(3, 0), (2, 2), (-2, 3), (3, 0)] _ 4 (Row.le hl1 (fun _ _ h => h)) (by simp); rw [ex_norm] at h; exact h)) ?_
  rintro _ M11 le12 ⟨AL, cL, rfl, hcL, hrL⟩
  obtain ⟨bL, oL, _, rfl, _, _, _⟩ := Row.at hrL (i := 0) rfl
  refine g_exec 1 [0, 1, 2] [] [] (fun _ => ⟨[(0, .v (.bool false)), (1, .v (.int .i64 (-2))), (2, .v (.slice (some ⟨bL, oL, none⟩) 2 cL))], [], [], 0⟩) (fun _ => by kernel_rfl) fun _ => ?_
  refine g_end (by kernel_rfl) ?_
  refine n_then ?_
  refine g_seq ?_
  refine g_region ?_
  refine g_exec 1 [0, 1, 2, 15] [] [] (fun _ => ⟨[(0, .v (.bool false)), (1, .v (.int .i64 (-2))), (2, .v (.slice (some ⟨bL, oL, none⟩) 2 cL)), (15, .v (.slice (some ⟨bL, oL, none⟩) 2 cL))], [], [], 0⟩) (fun _ => by kernel_rfl) fun _ => ?_
  refine g_call (dst := some 16) (g := 12) (args := [.slice (some ⟨bL, oL, none⟩) 2 cL]) (by kernel_rfl) (by kernel_rfl) (SlV chI 1 [0, 3]) (by intro w hst; exact (by have h := vars_calls hst.sat [(-2, 3), (3, 0)] _ cL (Row.le hrL (fun _ _ h => h)) (by simp); rw [ex_vars] at h; exact h)) ?_
  rintro _ M15 le16 ⟨AV, cV, rfl, hcV, hrV⟩
  obtain ⟨bV, oV, _, rfl, _, _, _⟩ := Row.at hrV (i := 0) rfl
  refine g_exec 1 [0, 1, 2, 3] [] [] (fun _ => ⟨[(0, .v (.bool false)), (1, .v (.int .i64 (-2))), (2, .v (.slice (some ⟨bL, oL, none⟩) 2 cL)), (3, .v (.slice (some ⟨bV, oV, none⟩) 2 cV))], [], [], 0⟩) (fun _ => by kernel_rfl) fun _ => ?_
  refine g_end (by kernel_rfl) ?_
  refine n_then ?_
  refine g_seq ?_
  refine g_region ?_
  refine g_exec 1 [0, 1, 2, 3, 17] [] [] (fun _ => ⟨[(0, .v (.bool false)), (1, .v (.int .i64 (-2))), (2, .v (.slice (some ⟨bL, oL, none⟩) 2 cL)), (3, .v (.slice (some ⟨bV, oV, none⟩) 2 cV)), (17, .v (.slice (some ⟨bL, oL, none⟩) 2 cL))], [], [], 0⟩) (fun _ => by kernel_rfl) fun _ => ?_
  refine g_call (dst := some 18) (g := 14) (args := [.slice (some ⟨bL, oL, none⟩) 2 cL]) (by kernel_rfl) (by kernel_rfl) (SlV chI 1 [1]) (by intro w hst; exact (by have h := points_calls hst.sat [(-2, 3), (3, 0)] _ cL (Row.le hrL (fun _ _ h => (le16 _ _ h))) (by simp); rw [ex_points] at h; exact h)) ?_
  rintro _ M19 le20 ⟨AP, cP, rfl, hcP, hrP⟩
  obtain ⟨bP, oP, _, rfl, _, _, _⟩ := Row.at hrP (i := 0) rfl
  refine g_exec 1 [0, 1, 2, 3, 4] [] [] (fun _ => ⟨[(0, .v (.bool false)), (1, .v (.int .i64 (-2))), (2, .v (.slice (some ⟨bL, oL, none⟩) 2 cL)), (3, .v (.slice (some ⟨bV, oV, none⟩) 2 cV)), (4, .v (.slice (some ⟨bP, oP, none⟩) 1 cP))], [], [], 0⟩) (fun _ => by kernel_rfl) fun _ => ?_
  refine g_end (by kernel_rfl) ?_
  refine n_then ?_
  refine g_seq ?_
  refine g_region ?_
  refine g_exec 1 [0, 1, 2, 3, 4, 19] [] [] (fun _ => ⟨[(0, .v (.bool false)), (1, .v (.int .i64 (-2))), (2, .v (.slice (some ⟨bL, oL, none⟩) 2 cL)), (3, .v (.slice (some ⟨bV, oV, none⟩) 2 cV)), (4, .v (.slice (some ⟨bP, oP, none⟩) 1 cP)), (19, .v (.slice (some ⟨bL, oL, none⟩) 2 cL))], [], [], 0⟩) (fun _ => by kernel_rfl) fun _ => ?_
  refine g_call (dst := some 20) (g := 19) (args := [.slice (some ⟨bL, oL, none⟩) 2 cL, .int .i64 2]) (by kernel_rfl) (by kernel_rfl) (SlV chP 2 [(-2, 5), (5, 2)]) (by intro w hst; exact (by have h := shift_calls hst.sat [(-2, 3), (3, 0)] _ cL (Row.le hrL (fun _ _ h => (le20 _ _ (le16 _ _ h)))) (by simp) 2; rw [ex_shift] at h; exact h)) ?_
  rintro _ M23 le24 ⟨AS, cS, rfl, hcS, hrS⟩
  obtain ⟨bS, oS, _, rfl, _, _, _⟩ := Row.at hrS (i := 0) rfl
  refine g_exec 1 [0, 1, 2, 3, 4, 5] [] [] (fun _ => ⟨[(0, .v (.bool false)), (1, .v (.int .i64 (-2))), (2, .v (.slice (some ⟨bL, oL, none⟩) 2 cL)), (3, .v (.slice (some ⟨bV, oV, none⟩) 2 cV)), (4, .v (.slice (some ⟨bP, oP, none⟩) 1 cP)), (5, .v (.slice (some ⟨bS, oS, none⟩) 2 cS))], [], [], 0⟩) (fun _ => by kernel_rfl) fun _ => ?_
  refine g_end (by kernel_rfl) ?_
  refine n_then ?_
  refine g_seq ?_
  refine g_region ?_
  refine g_exec 4 [0, 1, 2, 3, 4, 5, 21, 23, 24] [0, 1] [] (fun f26 => ⟨[(0, .v (.bool false)), (1, .v (.int .i64 (-2))), (2, .v (.slice (some ⟨bL, oL, none⟩) 2 cL)), (3, .v (.slice (some ⟨bV, oV, none⟩) 2 cV)), (4, .v (.slice (some ⟨bP, oP, none⟩) 1 cP)), (5, .v (.slice (some ⟨bS, oS, none⟩) 2 cS)), (21, .v (.slice (some ⟨bL, oL, none⟩) 2 cL)), (23, .v (.slice (some ⟨(f26 2), 0, none⟩) 2 2)), (24, .v (.slice (some ⟨(f26 3), 0, none⟩) 1 1))], [(1, .cells (f26 3) [.int .i64 7] 24), (0, .cells (f26 2) [.int .i64 3, .int .i64 (-2)] 24)], [], 2⟩) (fun _ => by kernel_rfl) fun f26 => ?_
  refine g_pubL 0 (b := (f26 2)) (t := 24) (cs := [.int .i64 3, .int .i64 (-2)]) (by rfl) ?_
  intro M27 le28 hp29
  have hl2 := row_pubL (enc := chI) (sz := 1) (fun _ => rfl) [3, -2] [] hp29
  refine g_pubL 1 (b := (f26 3)) (t := 24) (cs := [.int .i64 7]) (by rfl) ?_
  intro M30 le31 hp32
  have hl3 := row_pubL (enc := chI) (sz := 1) (fun _ => rfl) [7] [] hp32
  refine g_call (dst := some 25) (g := 21) (args := [.slice (some ⟨bL, oL, none⟩) 2 cL, .slice (some ⟨(f26 2), 0, none⟩) 2 2, .slice (some ⟨(f26 3), 0, none⟩) 1 1]) (by kernel_rfl) (by kernel_rfl) (SlV chP 2 [(-2, 7), (7, 0)]) (by intro w hst; exact (by have h := rename_calls hst.sat [(-2, 3), (3, 0)] _ cL (Row.le hrL (fun _ _ h => (le31 _ _ (le28 _ _ (le24 _ _ (le20 _ _ (le16 _ _ h))))))) (by simp) [3, -2] [7] _ _ 2 1 (Row.le hl2 (fun _ _ h => (le31 _ _ h))) (Row.le hl3 (fun _ _ h => h)) (by simp); rw [ex_ren] at h; exact h)) ?_
  rintro _ M34 le35 ⟨AR, cR, rfl, hcR, hrR⟩
  obtain ⟨bR, oR, _, rfl, _, _, _⟩ := Row.at hrR (i := 0) rfl
  refine g_exec 1 [0, 1, 2, 3, 4, 5, 6] [] [] (fun _ => ⟨[(0, .v (.bool false)), (1, .v (.int .i64 (-2))), (2, .v (.slice (some ⟨bL, oL, none⟩) 2 cL)), (3, .v (.slice (some ⟨bV, oV, none⟩) 2 cV)), (4, .v (.slice (some ⟨bP, oP, none⟩) 1 cP)), (5, .v (.slice (some ⟨bS, oS, none⟩) 2 cS)), (6, .v (.slice (some ⟨bR, oR, none⟩) 2 cR))], [], [], 0⟩) (fun _ => by kernel_rfl) fun _ => ?_
  refine g_end (by kernel_rfl) ?_
  refine n_then ?_
  refine g_seq ?_
  refine g_seq ?_
  refine g_region ?_
  refine g_exec 23 [0, 1, 2, 3, 4, 5, 6, 48] [] [] (fun _ => ⟨[(0, .v (.bool false)), (1, .v (.int .i64 (-2))), (2, .v (.slice (some ⟨bL, oL, none⟩) 2 cL)), (3, .v (.slice (some ⟨bV, oV, none⟩) 2 cV)), (4, .v (.slice (some ⟨bP, oP, none⟩) 1 cP)), (5, .v (.slice (some ⟨bS, oS, none⟩) 2 cS)), (6, .v (.slice (some ⟨bR, oR, none⟩) 2 cR)), (48, .v (.bool false))], [], [], 0⟩) (fun _ => by kernel_rfl) fun _ => ?_
  refine g_end (by kernel_rfl) ?_
  refine n_then ?_
  refine g_cond false (by kernel_rfl) (fun hc => ?_) (fun hc => ?_)
  · cases hc
  · refine g_skip ?_
    refine n_then ?_
    refine g_seq ?_
    refine g_region ?_
    refine g_exec 4 [0, 1, 2, 3, 4, 5, 6, 51, 52] [] [] (fun _ => ⟨[(0, .v (.bool false)), (1, .v (.int .i64 (-2))), (2, .v (.slice (some ⟨bL, oL, none⟩) 2 cL)), (3, .v (.slice (some ⟨bV, oV, none⟩) 2 cV)), (4, .v (.slice (some ⟨bP, oP, none⟩) 1 cP)), (5, .v (.slice (some ⟨bS, oS, none⟩) 2 cS)), (6, .v (.slice (some ⟨bR, oR, none⟩) 2 cR)), (51, .v (.bool true)), (52, .v (.int .i64 (-2)))], [], [], 0⟩) (fun _ => by kernel_rfl) fun _ => ?_
    refine g_call (dst := some 53) (g := 27) (args := [.int .i64 (-2)]) (by kernel_rfl) (by kernel_rfl) (fun v _ => v = .bool true) (by intro w hst; exact (by have h := isPoint_calls hst.sat (-2); rw [show isPt (-2) = true from by decide] at h; exact h)) ?_
    rintro _ M39 le40 rfl
    refine g_exec 3 [0, 1, 2, 3, 4, 5, 6, 55, 56] [] [] (fun _ => ⟨[(0, .v (.bool false)), (1, .v (.int .i64 (-2))), (2, .v (.slice (some ⟨bL, oL, none⟩) 2 cL)), (3, .v (.slice (some ⟨bV, oV, none⟩) 2 cV)), (4, .v (.slice (some ⟨bP, oP, none⟩) 1 cP)), (5, .v (.slice (some ⟨bS, oS, none⟩) 2 cS)), (6, .v (.slice (some ⟨bR, oR, none⟩) 2 cR)), (55, .v (.bool true)), (56, .v (.int .i64 (-2)))], [], [], 0⟩) (fun _ => by kernel_rfl) fun _ => ?_
    refine g_call (dst := some 57) (g := 25) (args := [.int .i64 (-2)]) (by kernel_rfl) (by kernel_rfl) (fun v _ => v = .int .i64 1) (by intro w hst; exact (by have h := pointOf_calls hst.sat (-2); rw [show ptOf (-2) = 1 from by decide] at h; exact h)) ?_
    rintro _ M42 le43 rfl
    refine g_exec 3 [0, 1, 2, 3, 4, 5, 6, 60] [] [] (fun _ => ⟨[(0, .v (.bool false)), (1, .v (.int .i64 (-2))), (2, .v (.slice (some ⟨bL, oL, none⟩) 2 cL)), (3, .v (.slice (some ⟨bV, oV, none⟩) 2 cV)), (4, .v (.slice (some ⟨bP, oP, none⟩) 1 cP)), (5, .v (.slice (some ⟨bS, oS, none⟩) 2 cS)), (6, .v (.slice (some ⟨bR, oR, none⟩) 2 cR)), (60, .v (.bool true))], [], [], 0⟩) (fun _ => by kernel_rfl) fun _ => ?_
    refine g_call (dst := some 61) (g := 25) (args := [.int .i64 4]) (by kernel_rfl) (by kernel_rfl) (fun v _ => v = .int .i64 (-1)) (by intro w hst; exact (by have h := pointOf_calls hst.sat 4; rw [show ptOf 4 = -1 from by decide] at h; exact h)) ?_
    rintro _ M45 le46 rfl
    refine g_exec 4 [0, 1, 2, 3, 4, 5, 6, 64, 65] [] [] (fun _ => ⟨[(0, .v (.bool false)), (1, .v (.int .i64 (-2))), (2, .v (.slice (some ⟨bL, oL, none⟩) 2 cL)), (3, .v (.slice (some ⟨bV, oV, none⟩) 2 cV)), (4, .v (.slice (some ⟨bP, oP, none⟩) 1 cP)), (5, .v (.slice (some ⟨bS, oS, none⟩) 2 cS)), (6, .v (.slice (some ⟨bR, oR, none⟩) 2 cR)), (64, .v (.bool true)), (65, .v (.slice (some ⟨bL, oL, none⟩) 2 cL))], [], [], 0⟩) (fun _ => by kernel_rfl) fun _ => ?_
    obtain ⟨_, rfl, _, hex50⟩ := Row.atc hrL (i := 0) (x := (-2, 3)) rfl
    refine g_yld (y_index (dst := some 66) (b := bL) (o := oL) (len := 2) (kk := .i64) (ii := 0) (sz := 2) (by kernel_rfl) (by omega) (by omega)) ?_
    refine g_yld (y_loads (dst := some 67) (b := bL) (o := oL + 0 * 2) (sz := 2) (by kernel_rfl) (cs := [.int .i64 (-2), .int .i64 3]) rfl (fun j v hj => le46 _ _ (le43 _ _ (le40 _ _ (le35 _ _ (le31 _ _ (le28 _ _ (le24 _ _ (le20 _ _ (le16 _ _ (hex50 j v hj))))))))))) ?_
    refine g_exec 2 [0, 1, 2, 3, 4, 5, 6, 64, 67, 69] [] [] (fun _ => ⟨[(0, .v (.bool false)), (1, .v (.int .i64 (-2))), (2, .v (.slice (some ⟨bL, oL, none⟩) 2 cL)), (3, .v (.slice (some ⟨bV, oV, none⟩) 2 cV)), (4, .v (.slice (some ⟨bP, oP, none⟩) 1 cP)), (5, .v (.slice (some ⟨bS, oS, none⟩) 2 cS)), (6, .v (.slice (some ⟨bR, oR, none⟩) 2 cR)), (64, .v (.bool true)), (67, .v (.agg #[.int .i64 (-2), .int .i64 3])), (69, .v (.agg #[.int .i64 (-2), .int .i64 3]))], [], [], 0⟩) (fun _ => by kernel_rfl) fun _ => ?_
    refine g_yld (y_eq (dst := some 70) (r := (((-2) == (-2)) && ((3 == 3) && true))) (by kernel_rfl)) ?_
    refine g_exec 2 [0, 1, 2, 3, 4, 5, 6, 72] [] [] (fun _ => ⟨[(0, .v (.bool false)), (1, .v (.int .i64 (-2))), (2, .v (.slice (some ⟨bL, oL, none⟩) 2 cL)), (3, .v (.slice (some ⟨bV, oV, none⟩) 2 cV)), (4, .v (.slice (some ⟨bP, oP, none⟩) 1 cP)), (5, .v (.slice (some ⟨bS, oS, none⟩) 2 cS)), (6, .v (.slice (some ⟨bR, oR, none⟩) 2 cR)), (72, .v (.bool (((-2) == (-2)) && ((3 == 3) && true))))], [], [], 0⟩) (fun _ => by kernel_rfl) fun _ => ?_
    refine g_bool 72 ((((-2) == (-2)) && ((3 == 3) && true))) (by kernel_rfl) (fun hc54 => ?_) (fun hc54 => ?_)
    · refine g_exec 1 [0, 1, 2, 3, 4, 5, 6, 72, 73] [] [] (fun _ => ⟨[(0, .v (.bool false)), (1, .v (.int .i64 (-2))), (2, .v (.slice (some ⟨bL, oL, none⟩) 2 cL)), (3, .v (.slice (some ⟨bV, oV, none⟩) 2 cV)), (4, .v (.slice (some ⟨bP, oP, none⟩) 1 cP)), (5, .v (.slice (some ⟨bS, oS, none⟩) 2 cS)), (6, .v (.slice (some ⟨bR, oR, none⟩) 2 cR)), (72, .v (.bool true)), (73, .v (.slice (some ⟨bL, oL, none⟩) 2 cL))], [], [], 0⟩) (fun _ => by kernel_rfl) fun _ => ?_
      obtain ⟨_, rfl, _, hex58⟩ := Row.atc hrL (i := 1) (x := (3, 0)) rfl
      refine g_yld (y_index (dst := some 74) (b := bL) (o := oL) (len := 2) (kk := .i64) (ii := 1) (sz := 2) (by kernel_rfl) (by omega) (by omega)) ?_
      refine g_yld (y_loads (dst := some 75) (b := bL) (o := oL + 1 * 2) (sz := 2) (by kernel_rfl) (cs := [.int .i64 3, .int .i64 0]) rfl (fun j v hj => le46 _ _ (le43 _ _ (le40 _ _ (le35 _ _ (le31 _ _ (le28 _ _ (le24 _ _ (le20 _ _ (le16 _ _ (hex58 j v hj))))))))))) ?_
      refine g_exec 1 [0, 1, 2, 3, 4, 5, 6, 72, 75, 76] [] [] (fun _ => ⟨[(0, .v (.bool false)), (1, .v (.int .i64 (-2))), (2, .v (.slice (some ⟨bL, oL, none⟩) 2 cL)), (3, .v (.slice (some ⟨bV, oV, none⟩) 2 cV)), (4, .v (.slice (some ⟨bP, oP, none⟩) 1 cP)), (5, .v (.slice (some ⟨bS, oS, none⟩) 2 cS)), (6, .v (.slice (some ⟨bR, oR, none⟩) 2 cR)), (72, .v (.bool true)), (75, .v (.agg #[.int .i64 3, .int .i64 0])), (76, .v (.agg #[.int .i64 3, .int .i64 0]))], [], [], 0⟩) (fun _ => by kernel_rfl) fun _ => ?_
      refine g_yld (y_eq (dst := some 77) (r := ((3 == 3) && ((0 == 0) && true))) (by kernel_rfl)) ?_
      refine g_exec 2 [0, 1, 2, 3, 4, 5, 6, 79] [] [] (fun _ => ⟨[(0, .v (.bool false)), (1, .v (.int .i64 (-2))), (2, .v (.slice (some ⟨bL, oL, none⟩) 2 cL)), (3, .v (.slice (some ⟨bV, oV, none⟩) 2 cV)), (4, .v (.slice (some ⟨bP, oP, none⟩) 1 cP)), (5, .v (.slice (some ⟨bS, oS, none⟩) 2 cS)), (6, .v (.slice (some ⟨bR, oR, none⟩) 2 cR)), (79, .v (.bool ((3 == 3) && ((0 == 0) && true))))], [], [], 0⟩) (fun _ => by kernel_rfl) fun _ => ?_
      refine g_bool 79 (((3 == 3) && ((0 == 0) && true))) (by kernel_rfl) (fun hc62 => ?_) (fun hc62 => ?_)
      · refine g_exec 1 [0, 1, 2, 3, 4, 5, 6, 79, 80] [] [] (fun _ => ⟨[(0, .v (.bool false)), (1, .v (.int .i64 (-2))), (2, .v (.slice (some ⟨bL, oL, none⟩) 2 cL)), (3, .v (.slice (some ⟨bV, oV, none⟩) 2 cV)), (4, .v (.slice (some ⟨bP, oP, none⟩) 1 cP)), (5, .v (.slice (some ⟨bS, oS, none⟩) 2 cS)), (6, .v (.slice (some ⟨bR, oR, none⟩) 2 cR)), (79, .v (.bool true)), (80, .v (.slice (some ⟨bV, oV, none⟩) 2 cV))], [], [], 0⟩) (fun _ => by kernel_rfl) fun _ => ?_
        obtain ⟨_, rfl, _, hex66⟩ := Row.atc hrV (i := 0) (x := 0) rfl
        refine g_yld (y_index (dst := some 81) (b := bV) (o := oV) (len := 2) (kk := .i64) (ii := 0) (sz := 1) (by kernel_rfl) (by omega) (by omega)) ?_
        refine g_yld (y_load1 (dst := some 82) (ad := ⟨bV, oV + 0 * 1, none⟩) (sz := 1) (by kernel_rfl) (v := .int .i64 0) (le46 _ _ (le43 _ _ (le40 _ _ (le35 _ _ (le31 _ _ (le28 _ _ (le24 _ _ (le20 _ _ (hex66 0 _ rfl)))))))))) ?_
        refine g_exec 4 [0, 1, 2, 4, 5, 6, 85, 86] [] [] (fun _ => ⟨[(0, .v (.bool false)), (1, .v (.int .i64 (-2))), (2, .v (.slice (some ⟨bL, oL, none⟩) 2 cL)), (4, .v (.slice (some ⟨bP, oP, none⟩) 1 cP)), (5, .v (.slice (some ⟨bS, oS, none⟩) 2 cS)), (6, .v (.slice (some ⟨bR, oR, none⟩) 2 cR)), (85, .v (.bool true)), (86, .v (.slice (some ⟨bV, oV, none⟩) 2 cV))], [], [], 0⟩) (fun _ => by kernel_rfl) fun _ => ?_
        obtain ⟨_, rfl, _, hex71⟩ := Row.atc hrV (i := 1) (x := 3) rfl
        refine g_yld (y_index (dst := some 87) (b := bV) (o := oV) (len := 2) (kk := .i64) (ii := 1) (sz := 1) (by kernel_rfl) (by omega) (by omega)) ?_
        refine g_yld (y_load1 (dst := some 88) (ad := ⟨bV, oV + 1 * 1, none⟩) (sz := 1) (by kernel_rfl) (v := .int .i64 3) (le46 _ _ (le43 _ _ (le40 _ _ (le35 _ _ (le31 _ _ (le28 _ _ (le24 _ _ (le20 _ _ (hex71 0 _ rfl)))))))))) ?_
        refine g_exec 4 [0, 1, 2, 5, 6, 91, 92] [] [] (fun _ => ⟨[(0, .v (.bool false)), (1, .v (.int .i64 (-2))), (2, .v (.slice (some ⟨bL, oL, none⟩) 2 cL)), (5, .v (.slice (some ⟨bS, oS, none⟩) 2 cS)), (6, .v (.slice (some ⟨bR, oR, none⟩) 2 cR)), (91, .v (.bool true)), (92, .v (.slice (some ⟨bP, oP, none⟩) 1 cP))], [], [], 0⟩) (fun _ => by kernel_rfl) fun _ => ?_
        obtain ⟨_, rfl, _, hex76⟩ := Row.atc hrP (i := 0) (x := 1) rfl
        refine g_yld (y_index (dst := some 93) (b := bP) (o := oP) (len := 1) (kk := .i64) (ii := 0) (sz := 1) (by kernel_rfl) (by omega) (by omega)) ?_
        refine g_yld (y_load1 (dst := some 94) (ad := ⟨bP, oP + 0 * 1, none⟩) (sz := 1) (by kernel_rfl) (v := .int .i64 1) (le46 _ _ (le43 _ _ (le40 _ _ (le35 _ _ (le31 _ _ (le28 _ _ (le24 _ _ (hex76 0 _ rfl))))))))) ?_
        refine g_exec 4 [0, 1, 2, 5, 6, 97, 98] [] [] (fun _ => ⟨[(0, .v (.bool false)), (1, .v (.int .i64 (-2))), (2, .v (.slice (some ⟨bL, oL, none⟩) 2 cL)), (5, .v (.slice (some ⟨bS, oS, none⟩) 2 cS)), (6, .v (.slice (some ⟨bR, oR, none⟩) 2 cR)), (97, .v (.bool true)), (98, .v (.slice (some ⟨bS, oS, none⟩) 2 cS))], [], [], 0⟩) (fun _ => by kernel_rfl) fun _ => ?_
        obtain ⟨_, rfl, _, hex81⟩ := Row.atc hrS (i := 1) (x := (5, 2)) rfl
        refine g_yld (y_index (dst := some 99) (b := bS) (o := oS) (len := 2) (kk := .i64) (ii := 1) (sz := 2) (by kernel_rfl) (by omega) (by omega)) ?_
        refine g_yld (y_loads (dst := some 100) (b := bS) (o := oS + 1 * 2) (sz := 2) (by kernel_rfl) (cs := [.int .i64 5, .int .i64 2]) rfl (fun j v hj => le46 _ _ (le43 _ _ (le40 _ _ (le35 _ _ (le31 _ _ (le28 _ _ (hex81 j v hj)))))))) ?_
        refine g_exec 1 [0, 1, 2, 5, 6, 97, 100, 101] [] [] (fun _ => ⟨[(0, .v (.bool false)), (1, .v (.int .i64 (-2))), (2, .v (.slice (some ⟨bL, oL, none⟩) 2 cL)), (5, .v (.slice (some ⟨bS, oS, none⟩) 2 cS)), (6, .v (.slice (some ⟨bR, oR, none⟩) 2 cR)), (97, .v (.bool true)), (100, .v (.agg #[.int .i64 5, .int .i64 2])), (101, .v (.agg #[.int .i64 5, .int .i64 2]))], [], [], 0⟩) (fun _ => by kernel_rfl) fun _ => ?_
        refine g_yld (y_eq (dst := some 102) (r := ((5 == 5) && ((2 == 2) && true))) (by kernel_rfl)) ?_
        refine g_exec 2 [0, 1, 2, 5, 6, 104] [] [] (fun _ => ⟨[(0, .v (.bool false)), (1, .v (.int .i64 (-2))), (2, .v (.slice (some ⟨bL, oL, none⟩) 2 cL)), (5, .v (.slice (some ⟨bS, oS, none⟩) 2 cS)), (6, .v (.slice (some ⟨bR, oR, none⟩) 2 cR)), (104, .v (.bool ((5 == 5) && ((2 == 2) && true))))], [], [], 0⟩) (fun _ => by kernel_rfl) fun _ => ?_
        refine g_bool 104 (((5 == 5) && ((2 == 2) && true))) (by kernel_rfl) (fun hc85 => ?_) (fun hc85 => ?_)
        · refine g_exec 1 [0, 1, 2, 6, 104, 105] [] [] (fun _ => ⟨[(0, .v (.bool false)), (1, .v (.int .i64 (-2))), (2, .v (.slice (some ⟨bL, oL, none⟩) 2 cL)), (6, .v (.slice (some ⟨bR, oR, none⟩) 2 cR)), (104, .v (.bool true)), (105, .v (.slice (some ⟨bS, oS, none⟩) 2 cS))], [], [], 0⟩) (fun _ => by kernel_rfl) fun _ => ?_
          obtain ⟨_, rfl, _, hex89⟩ := Row.atc hrS (i := 0) (x := (-2, 5)) rfl
          refine g_yld (y_index (dst := some 106) (b := bS) (o := oS) (len := 2) (kk := .i64) (ii := 0) (sz := 2) (by kernel_rfl) (by omega) (by omega)) ?_
          refine g_exec 1 [0, 1, 2, 6, 104, 107] [] [] (fun _ => ⟨[(0, .v (.bool false)), (1, .v (.int .i64 (-2))), (2, .v (.slice (some ⟨bL, oL, none⟩) 2 cL)), (6, .v (.slice (some ⟨bR, oR, none⟩) 2 cR)), (104, .v (.bool true)), (107, .v (.pointer (some ⟨bS, oS + 0 * 2 + 0, none⟩)))], [], [], 0⟩) (fun _ => by kernel_rfl) fun _ => ?_
          refine g_yld (y_load1 (dst := some 108) (ad := ⟨bS, oS + 0 * 2, none⟩) (sz := 1) (by kernel_rfl) (v := .int .i64 (-2)) (le46 _ _ (le43 _ _ (le40 _ _ (le35 _ _ (le31 _ _ (le28 _ _ (hex89 0 _ rfl)))))))) ?_
          refine g_exec 5 [0, 1, 2, 112, 113] [] [] (fun _ => ⟨[(0, .v (.bool false)), (1, .v (.int .i64 (-2))), (2, .v (.slice (some ⟨bL, oL, none⟩) 2 cL)), (112, .v (.bool true)), (113, .v (.slice (some ⟨bR, oR, none⟩) 2 cR))], [], [], 0⟩) (fun _ => by kernel_rfl) fun _ => ?_
          obtain ⟨_, rfl, _, hex94⟩ := Row.atc hrR (i := 0) (x := (-2, 7)) rfl
          refine g_yld (y_index (dst := some 114) (b := bR) (o := oR) (len := 2) (kk := .i64) (ii := 0) (sz := 2) (by kernel_rfl) (by omega) (by omega)) ?_
          refine g_yld (y_loads (dst := some 115) (b := bR) (o := oR + 0 * 2) (sz := 2) (by kernel_rfl) (cs := [.int .i64 (-2), .int .i64 7]) rfl (fun j v hj => le46 _ _ (le43 _ _ (le40 _ _ (hex94 j v hj))))) ?_
          refine g_exec 2 [0, 1, 2, 112, 115, 117] [] [] (fun _ => ⟨[(0, .v (.bool false)), (1, .v (.int .i64 (-2))), (2, .v (.slice (some ⟨bL, oL, none⟩) 2 cL)), (112, .v (.bool true)), (115, .v (.agg #[.int .i64 (-2), .int .i64 7])), (117, .v (.agg #[.int .i64 (-2), .int .i64 7]))], [], [], 0⟩) (fun _ => by kernel_rfl) fun _ => ?_
          refine g_yld (y_eq (dst := some 118) (r := (((-2) == (-2)) && ((7 == 7) && true))) (by kernel_rfl)) ?_
          refine g_exec 2 [0, 1, 2, 120] [] [] (fun _ => ⟨[(0, .v (.bool false)), (1, .v (.int .i64 (-2))), (2, .v (.slice (some ⟨bL, oL, none⟩) 2 cL)), (120, .v (.bool (((-2) == (-2)) && ((7 == 7) && true))))], [], [], 0⟩) (fun _ => by kernel_rfl) fun _ => ?_
          refine g_bool 120 ((((-2) == (-2)) && ((7 == 7) && true))) (by kernel_rfl) (fun hc98 => ?_) (fun hc98 => ?_)
          · refine g_exec 2 [0, 1, 120, 121, 122] [0] [] (fun f99 => ⟨[(0, .v (.bool false)), (1, .v (.int .i64 (-2))), (120, .v (.bool true)), (121, .v (.slice (some ⟨(f99 72), 0, none⟩) 2 2)), (122, .v (.slice (some ⟨bL, oL, none⟩) 2 cL))], [(0, .cells (f99 72) [.string ⟨#[76, 111]⟩, .string ⟨#[72, 105]⟩] 9)], [], 1⟩) (fun _ => by kernel_rfl) fun f99 => ?_
            refine g_pubL 0 (b := (f99 72)) (t := 9) (cs := [.string ⟨#[76, 111]⟩, .string ⟨#[72, 105]⟩]) (by rfl) ?_
            intro M100 le101 hp102
            have hl4 := row_pubL (enc := chS) (sz := 1) (fun _ => rfl) [⟨#[76, 111]⟩, ⟨#[72, 105]⟩] [] hp102
            refine g_call (dst := some 123) (g := 30) (args := [.slice (some ⟨(f99 72), 0, none⟩) 2 2, .slice (some ⟨bL, oL, none⟩) 2 cL]) (by kernel_rfl) (by kernel_rfl) (fun v _ => v = .string ⟨#[72, 105, 32, 60, 61, 32, 39, 51, 44, 32, 39, 51, 32, 60, 61, 32, 39, 48]⟩) (by intro w hst; exact (by have h := texts_calls hst.sat (hT.ext hst.ext0) [⟨#[76, 111]⟩, ⟨#[72, 105]⟩] _ 2 (Row.le hl4 (fun _ _ h => h)) (by simp) ex_ns [(-2, 3), (3, 0)] _ cL (Row.le hrL (fun _ _ h => (le101 _ _ (le46 _ _ (le43 _ _ (le40 _ _ (le35 _ _ (le31 _ _ (le28 _ _ (le24 _ _ (le20 _ _ (le16 _ _ h)))))))))))) (by simp) ex_rg; rw [ex_texts] at h; exact h)) ?_
            rintro _ M104 le105 rfl
            refine g_exec 3 [0, 1, 126] [] [] (fun _ => ⟨[(0, .v (.bool false)), (1, .v (.int .i64 (-2))), (126, .v (.bool ((⟨#[72, 105, 32, 60, 61, 32, 39, 51, 44, 32, 39, 51, 32, 60, 61, 32, 39, 48]⟩ : ByteArray).toList == (⟨#[72, 105, 32, 60, 61, 32, 39, 51, 44, 32, 39, 51, 32, 60, 61, 32, 39, 48]⟩ : ByteArray).toList)))], [], [], 0⟩) (fun _ => by kernel_rfl) fun _ => ?_
            refine g_bool 126 (((⟨#[72, 105, 32, 60, 61, 32, 39, 51, 44, 32, 39, 51, 32, 60, 61, 32, 39, 48]⟩ : ByteArray).toList == (⟨#[72, 105, 32, 60, 61, 32, 39, 51, 44, 32, 39, 51, 32, 60, 61, 32, 39, 48]⟩ : ByteArray).toList)) (by kernel_rfl) (fun hc107 => ?_) (fun hc107 => ?_)
            · refine g_call (dst := some 127) (g := 30) (args := [.slice none 0 0, .slice none 0 0]) (by kernel_rfl) (by kernel_rfl) (fun v _ => v = .string ⟨#[45]⟩) (by intro w hst; exact (by have h := texts_calls hst.sat (hT.ext hst.ext0) [] none 0 Row.nil (by simp) (by simp) [] none 0 Row.nil (by simp) (by simp); rw [ex_none] at h; exact h)) ?_
              rintro _ M109 le110 rfl
              refine g_exec 3 [0, 1, 130] [] [] (fun _ => ⟨[(0, .v (.bool false)), (1, .v (.int .i64 (-2))), (130, .v (.bool ((⟨#[45]⟩ : ByteArray).toList == (⟨#[45]⟩ : ByteArray).toList)))], [], [], 0⟩) (fun _ => by kernel_rfl) fun _ => ?_
              refine g_bool 130 (((⟨#[45]⟩ : ByteArray).toList == (⟨#[45]⟩ : ByteArray).toList)) (by kernel_rfl) (fun hc112 => ?_) (fun hc112 => ?_)
              · refine g_exec 1 [0, 130, 131] [] [] (fun _ => ⟨[(0, .v (.bool false)), (130, .v (.bool true)), (131, .v (.int .i64 (-2)))], [], [], 0⟩) (fun _ => by kernel_rfl) fun _ => ?_
                refine g_call (dst := some 132) (g := 28) (args := [.slice none 0 0, .int .i64 (-2)]) (by kernel_rfl) (by kernel_rfl) (fun v _ => v = .string ⟨#[63]⟩) (by intro w hst; exact (by have h := text_calls hst.sat (hT.ext hst.ext0) [] none 0 Row.nil (by simp) (by simp) (-2) (by omega) (by omega); rw [ex_what] at h; exact h)) ?_
                rintro _ M114 le115 rfl
                refine g_exec 3 [0] [] [] (fun _ => ⟨[(0, .v (.bool ((⟨#[63]⟩ : ByteArray).toList == (⟨#[63]⟩ : ByteArray).toList)))], [], [], 0⟩) (fun _ => by kernel_rfl) fun _ => ?_
                refine g_end (by kernel_rfl) ?_
                refine n_then ?_
                refine g_ret ?_
                exact n_post (.bool ((⟨#[63]⟩ : ByteArray).toList == (⟨#[63]⟩ : ByteArray).toList)) (by kernel_rfl) (by rw [beq_self_eq_true])
              · exact absurd (beq_self_eq_true _) (by rw [hc112]; decide)
            · exact absurd (beq_self_eq_true _) (by rw [hc107]; decide)
          · exact absurd hc98 (by decide)
        · exact absurd hc85 (by decide)
      · exact absurd hc62 (by decide)
    · exact absurd hc54 (by decide)
end Go.Ch
