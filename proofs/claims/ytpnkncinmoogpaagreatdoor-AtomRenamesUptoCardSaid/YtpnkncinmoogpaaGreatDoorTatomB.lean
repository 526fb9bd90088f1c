import Derived.Test.YtpnkncinmoogpaaGreatDoorTSort
import Derived.Test.YtpnkncinmoogpaaGreatDoorTCompact
set_option linter.unusedVariables false
namespace Go.Ch
open Go Go.Eng Go.Proofs

theorem clone_calls {M : Mem} {w : World} (hM : Sat M w) (xs : List (Int × Int)) (ab ao c : Nat) (hrow : Row (flat chP) 2 M (some ⟨ab, ao, none⟩) xs) (hlen : xs.length ≤ 1099511627776) : CtL Tryz.prog 39 [.slice (some ⟨ab, ao, none⟩) xs.length c] [] w M (fun v M' Lo => ∃ b cap tail, v = .slice (some ⟨b, 0, none⟩) xs.length cap ∧ Lo = [.cells b (FL chP xs tail) 53] ∧ xs.length ≤ cap) := by
  have hLent := Lent.nil (M := M) (w := w)
  refine enterL (n := 8) Tryz.func39 rfl rfl _ (by kernel_rfl) hM hLent ?_
  refine g_seq ?_
  refine g_region ?_
  refine g_exec 1 [0, 2] [] [] (fun _ => ⟨[(0, .v (.slice (some ⟨ab, ao, none⟩) xs.length c)), (2, .v (.slice none 0 0))], [], [], 0⟩) (fun _ => by kernel_rfl) fun _ => ?_
  refine g_end (by kernel_rfl) ?_
  refine n_then ?_
  refine g_seq ?_
  refine g_seq ?_
  refine g_region ?_
  refine g_exec 1 [0, 2, 3] [] [] (fun _ => ⟨[(0, .v (.slice (some ⟨ab, ao, none⟩) xs.length c)), (2, .v (.slice none 0 0)), (3, .v (.slice (some ⟨ab, ao, none⟩) xs.length c))], [], [], 0⟩) (fun _ => by kernel_rfl) fun _ => ?_
  refine g_yld (y_eq (dst := some 4) (r := false) (by kernel_rfl)) ?_
  refine g_end (by kernel_rfl) ?_
  refine n_then ?_
  refine g_cond false (by kernel_rfl) (fun hc => ?_) (fun hc => ?_)
  · cases hc
  · refine g_skip ?_
    refine n_then ?_
    refine g_seq ?_
    refine g_region ?_
    refine g_exec 2 [2, 5, 6] [0] [] (fun f4 => ⟨[(2, .v (.slice none 0 0)), (5, .v (.slice (some ⟨(f4 0), 0, none⟩) 0 0)), (6, .v (.slice (some ⟨ab, ao, none⟩) xs.length c))], [(0, .cells (f4 0) [] 53)], [], 1⟩) (fun _ => by kernel_rfl) fun f4 => ?_
    refine g_rowL 0 0 0 0 2 (b := (f4 0)) (t := 53) (cs := []) (by rfl) (by rfl) (Nat.le_refl _) rfl (Nat.zero_le _) ?_
    refine g_appendM (dst := some 7) 0 xs.length c (xs.flatMap chP) (u := .slice (some ⟨(f4 0), 0, none⟩) 0 0) (row := ⟨.slice (some ⟨(f4 0), 0, none⟩) 0 0, 53, 2, 0, List.take (0 * 2) []⟩) (b := ab) (o := ao) (bytes := 16) (by kernel_rfl) rfl (by rw [flatMap_len (enc := chP) (sz := 2) (fun _ => rfl)]) M (fun w hst => hst.sat) (row_cells (enc := chP) (sz := 2) (fun _ => rfl) hrow) (FL_one (fun _ => rfl) xs) (by show (0 + xs.length) * 16 ≤ 140737488355328; omega) (by show 0 + xs.length ≤ 140737488355328; omega) ?_
    intro v' hnil
    refine g_exec 1 [2] [] [0] (fun _ => ⟨[(2, .v (v'))], [], [(0, ⟨v', 53, 2, 0 + xs.length, List.take (0 * 2) [] ++ xs.flatMap chP⟩)], 0⟩) (fun _ => by kernel_rfl) fun _ => ?_
    refine g_end (by kernel_rfl) ?_
    refine n_then ?_
    refine g_ret ?_
    refine g_openR 0 (row := ⟨v', 53, 2, 0 + xs.length, List.take (0 * 2) [] ++ xs.flatMap chP⟩) (by rfl) (by simp) (fun hv _ _ => ?_) (fun b cap tail hv hc hl => ?_)
    · have := (hnil.1 hv).1; cases this
    · refine n_postL [0] [.cells b (FL chP xs tail) 53] (by rfl) v' (by kernel_rfl) ⟨b, cap, tail, ?_, rfl, ?_⟩
      · have hv2 : v' = .slice (some ⟨b, 0, none⟩) (0 + xs.length) cap := hv
        rw [hv2, Nat.zero_add]
      · have hc2 : 0 + xs.length ≤ cap := hc; omega
theorem clone_nil {M : Mem} {w : World} (hM : Sat M w) (c : Nat) : Ct Tryz.prog 39 [.slice none 0 c] [] w M (fun v _ => v = .slice none 0 0) := by
  refine enter (n := 8) Tryz.func39 rfl rfl _ (by kernel_rfl) hM ?_
  refine g_seq ?_
  refine g_region ?_
  refine g_exec 1 [0, 2] [] [] (fun _ => ⟨[(0, .v (.slice none 0 c)), (2, .v (.slice none 0 0))], [], [], 0⟩) (fun _ => by kernel_rfl) fun _ => ?_
  refine g_end (by kernel_rfl) ?_
  refine n_then ?_
  refine g_seq ?_
  refine g_seq ?_
  refine g_region ?_
  refine g_exec 1 [0, 2, 3] [] [] (fun _ => ⟨[(0, .v (.slice none 0 c)), (2, .v (.slice none 0 0)), (3, .v (.slice none 0 c))], [], [], 0⟩) (fun _ => by kernel_rfl) fun _ => ?_
  refine g_yld (y_eq (dst := some 4) (r := true) (by kernel_rfl)) ?_
  refine g_end (by kernel_rfl) ?_
  refine n_then ?_
  refine g_cond true (by kernel_rfl) (fun hc => ?_) (fun hc => ?_)
  · refine g_seq ?_
    refine g_region ?_
    refine g_exec 1 [0, 2] [] [] (fun _ => ⟨[(0, .v (.slice none 0 c)), (2, .v (.slice none 0 0))], [], [], 0⟩) (fun _ => by kernel_rfl) fun _ => ?_
    refine g_end (by kernel_rfl) ?_
    refine n_then ?_
    refine g_ret ?_
    refine n_then_ret ?_
    exact n_post (.slice none 0 0) (by kernel_rfl) rfl
  · cases hc
theorem indexFunc_nil {M : Mem} {w : World} (hM : Sat M w) (c : Nat) : Ct Tryz.prog 57 [.slice none 0 c, .func (.func 40) #[] #[]] [] w M (fun v _ => v = .int .i64 (-1)) := by
  refine enter (n := 19) Tryz.func57 rfl rfl _ (by kernel_rfl) hM ?_
  refine g_seq ?_
  refine g_region ?_
  refine g_exec 1 [0, 1, 4] [] [] (fun _ => ⟨[(0, .v (.slice none 0 c)), (1, .v (.func (.func 40) #[] #[])), (4, .v (.int .i64 0))], [], [], 0⟩) (fun _ => by kernel_rfl) fun _ => ?_
  refine g_end (by kernel_rfl) ?_
  refine n_then ?_
  refine g_seq ?_
  refine g_seq ?_
  refine g_region ?_
  refine g_exec 3 [0, 1, 4, 7, 8] [] [] (fun _ => ⟨[(0, .v (.slice none 0 c)), (1, .v (.func (.func 40) #[] #[])), (4, .v (.int .i64 0)), (7, .v (.int .i64 0)), (8, .v (.int .i64 0))], [], [], 0⟩) (fun _ => by kernel_rfl) fun _ => ?_
  refine g_end (by kernel_rfl) ?_
  refine n_then ?_
  refine g_block ?_
  refine g_while (ι := Unit) (fun _ M2 s => M2 = M ∧ s = ⟨[(0, .v (.slice none 0 c)), (1, .v (.func (.func 40) #[] #[])), (4, .v (.int .i64 0)), (7, .v (.int .i64 0)), (8, .v (.int .i64 0))], [], [], 0⟩) (fun _ => 0) () ⟨rfl, rfl⟩ ?_
  rintro _ M2 _ ⟨rfl, rfl⟩
  refine g_seq ?_
  refine g_region ?_
  refine g_exec 1 [0, 1, 4, 8, 9] [] [] (fun _ => ⟨[(0, .v (.slice none 0 c)), (1, .v (.func (.func 40) #[] #[])), (4, .v (.int .i64 0)), (8, .v (.int .i64 0)), (9, .v (.bool false))], [], [], 0⟩) (fun _ => by kernel_rfl) fun _ => ?_
  refine g_end (by kernel_rfl) ?_
  refine n_then ?_
  refine g_seq ?_
  refine g_cond false (by kernel_rfl) (fun hc => ?_) (fun hc => ?_)
  · cases hc
  · refine g_exit ?_
    refine n_then_exit ?_
    refine n_then_exit ?_
    refine n_block_exit ?_
    refine n_then ?_
    refine g_seq ?_
    refine g_region ?_
    refine g_exec 1 [4] [] [] (fun _ => ⟨[(4, .v (.int .i64 (-1)))], [], [], 0⟩) (fun _ => by kernel_rfl) fun _ => ?_
    refine g_end (by kernel_rfl) ?_
    refine n_then ?_
    refine g_ret ?_
    exact n_post (.int .i64 (-1)) (by kernel_rfl) rfl
theorem deleteFunc_nil {M : Mem} {w : World} (hM : Sat M w) (c : Nat) : Ct Tryz.prog 38 [.slice none 0 c, .func (.func 40) #[] #[]] [] w M (fun v _ => v = .slice none 0 c) := by
  refine enter (n := 42) Tryz.func38 rfl rfl _ (by kernel_rfl) hM ?_
  refine g_seq ?_
  refine g_region ?_
  refine g_exec 1 [0, 1, 4] [] [] (fun _ => ⟨[(0, .v (.slice none 0 c)), (1, .v (.func (.func 40) #[] #[])), (4, .v (.slice none 0 0))], [], [], 0⟩) (fun _ => by kernel_rfl) fun _ => ?_
  refine g_end (by kernel_rfl) ?_
  refine n_then ?_
  refine g_seq ?_
  refine g_region ?_
  refine g_exec 2 [0, 1, 4, 8, 9] [] [] (fun _ => ⟨[(0, .v (.slice none 0 c)), (1, .v (.func (.func 40) #[] #[])), (4, .v (.slice none 0 0)), (8, .v (.slice none 0 c)), (9, .v (.func (.func 40) #[] #[]))], [], [], 0⟩) (fun _ => by kernel_rfl) fun _ => ?_
  refine g_call (dst := some 10) (g := 57) (args := [.slice none 0 c, .func (.func 40) #[] #[]]) (by kernel_rfl) (by kernel_rfl) (fun v _ => v = .int .i64 (-1)) (by intro w hst; exact indexFunc_nil hst.sat c) ?_
  rintro _ M3 le4 rfl
  refine g_exec 1 [0, 1, 4, 5] [] [] (fun _ => ⟨[(0, .v (.slice none 0 c)), (1, .v (.func (.func 40) #[] #[])), (4, .v (.slice none 0 0)), (5, .v (.int .i64 (-1)))], [], [], 0⟩) (fun _ => by kernel_rfl) fun _ => ?_
  refine g_end (by kernel_rfl) ?_
  refine n_then ?_
  refine g_seq ?_
  refine g_seq ?_
  refine g_region ?_
  refine g_exec 2 [0, 1, 4, 5, 12] [] [] (fun _ => ⟨[(0, .v (.slice none 0 c)), (1, .v (.func (.func 40) #[] #[])), (4, .v (.slice none 0 0)), (5, .v (.int .i64 (-1))), (12, .v (.bool true))], [], [], 0⟩) (fun _ => by kernel_rfl) fun _ => ?_
  refine g_end (by kernel_rfl) ?_
  refine n_then ?_
  refine g_cond true (by kernel_rfl) (fun hc => ?_) (fun hc => ?_)
  · refine g_seq ?_
    refine g_region ?_
    refine g_exec 2 [0, 1, 4, 5] [] [] (fun _ => ⟨[(0, .v (.slice none 0 c)), (1, .v (.func (.func 40) #[] #[])), (4, .v (.slice none 0 c)), (5, .v (.int .i64 (-1)))], [], [], 0⟩) (fun _ => by kernel_rfl) fun _ => ?_
    refine g_end (by kernel_rfl) ?_
    refine n_then ?_
    refine g_ret ?_
    refine n_then_ret ?_
    exact n_post (.slice none 0 c) (by kernel_rfl) rfl
  · cases hc
theorem compactP_nil {M : Mem} {w : World} (hM : Sat M w) (c : Nat) : Ct Tryz.prog 43 [.slice none 0 c] [] w M (fun v _ => v = .slice none 0 c) := by
  refine enter (n := 61) Tryz.func43 rfl rfl _ (by kernel_rfl) hM ?_
  refine g_seq ?_
  refine g_region ?_
  refine g_exec 1 [0, 2] [] [] (fun _ => ⟨[(0, .v (.slice none 0 c)), (2, .v (.slice none 0 0))], [], [], 0⟩) (fun _ => by kernel_rfl) fun _ => ?_
  refine g_end (by kernel_rfl) ?_
  refine n_then ?_
  refine g_seq ?_
  refine g_seq ?_
  refine g_region ?_
  refine g_exec 3 [0, 2, 8] [] [] (fun _ => ⟨[(0, .v (.slice none 0 c)), (2, .v (.slice none 0 0)), (8, .v (.bool true))], [], [], 0⟩) (fun _ => by kernel_rfl) fun _ => ?_
  refine g_end (by kernel_rfl) ?_
  refine n_then ?_
  refine g_cond true (by kernel_rfl) (fun hc => ?_) (fun hc => ?_)
  · refine g_seq ?_
    refine g_region ?_
    refine g_exec 2 [0, 2] [] [] (fun _ => ⟨[(0, .v (.slice none 0 c)), (2, .v (.slice none 0 c))], [], [], 0⟩) (fun _ => by kernel_rfl) fun _ => ?_
    refine g_end (by kernel_rfl) ?_
    refine n_then ?_
    refine g_ret ?_
    refine n_then_ret ?_
    exact n_post (.slice none 0 c) (by kernel_rfl) rfl
  · cases hc
theorem compactA_nil {M : Mem} {w : World} (hM : Sat M w) (c : Nat) : Ct Tryz.prog 54 [.slice none 0 c] [] w M (fun v _ => v = .slice none 0 c) := by
  refine enter (n := 61) Tryz.func54 rfl rfl _ (by kernel_rfl) hM ?_
  refine g_seq ?_
  refine g_region ?_
  refine g_exec 1 [0, 2] [] [] (fun _ => ⟨[(0, .v (.slice none 0 c)), (2, .v (.slice none 0 0))], [], [], 0⟩) (fun _ => by kernel_rfl) fun _ => ?_
  refine g_end (by kernel_rfl) ?_
  refine n_then ?_
  refine g_seq ?_
  refine g_seq ?_
  refine g_region ?_
  refine g_exec 3 [0, 2, 8] [] [] (fun _ => ⟨[(0, .v (.slice none 0 c)), (2, .v (.slice none 0 0)), (8, .v (.bool true))], [], [], 0⟩) (fun _ => by kernel_rfl) fun _ => ?_
  refine g_end (by kernel_rfl) ?_
  refine n_then ?_
  refine g_cond true (by kernel_rfl) (fun hc => ?_) (fun hc => ?_)
  · refine g_seq ?_
    refine g_region ?_
    refine g_exec 2 [0, 2] [] [] (fun _ => ⟨[(0, .v (.slice none 0 c)), (2, .v (.slice none 0 c))], [], [], 0⟩) (fun _ => by kernel_rfl) fun _ => ?_
    refine g_end (by kernel_rfl) ?_
    refine n_then ?_
    refine g_ret ?_
    refine n_then_ret ?_
    exact n_post (.slice none 0 c) (by kernel_rfl) rfl
  · cases hc
theorem compactI_nil {M : Mem} {w : World} (hM : Sat M w) (c : Nat) : Ct Tryz.prog 56 [.slice none 0 c] [] w M (fun v _ => v = .slice none 0 c) := by
  refine enter (n := 61) Tryz.func56 rfl rfl _ (by kernel_rfl) hM ?_
  refine g_seq ?_
  refine g_region ?_
  refine g_exec 1 [0, 2] [] [] (fun _ => ⟨[(0, .v (.slice none 0 c)), (2, .v (.slice none 0 0))], [], [], 0⟩) (fun _ => by kernel_rfl) fun _ => ?_
  refine g_end (by kernel_rfl) ?_
  refine n_then ?_
  refine g_seq ?_
  refine g_seq ?_
  refine g_region ?_
  refine g_exec 3 [0, 2, 8] [] [] (fun _ => ⟨[(0, .v (.slice none 0 c)), (2, .v (.slice none 0 0)), (8, .v (.bool true))], [], [], 0⟩) (fun _ => by kernel_rfl) fun _ => ?_
  refine g_end (by kernel_rfl) ?_
  refine n_then ?_
  refine g_cond true (by kernel_rfl) (fun hc => ?_) (fun hc => ?_)
  · refine g_seq ?_
    refine g_region ?_
    refine g_exec 2 [0, 2] [] [] (fun _ => ⟨[(0, .v (.slice none 0 c)), (2, .v (.slice none 0 c))], [], [], 0⟩) (fun _ => by kernel_rfl) fun _ => ?_
    refine g_end (by kernel_rfl) ?_
    refine n_then ?_
    refine g_ret ?_
    refine n_then_ret ?_
    exact n_post (.slice none 0 c) (by kernel_rfl) rfl
  · cases hc
theorem norm_block {M : Mem} {w : World} (hM : Sat M w) (xs : List (Int × Int)) (ab ao c : Nat) (hrow : Row (flat chP) 2 M (some ⟨ab, ao, none⟩) xs) (hlen : xs.length ≤ 1099511627776) : Ct Tryz.prog 17 [.slice (some ⟨ab, ao, none⟩) xs.length c] [] w M (SlV chP 2 (normL xs)) := by
  refine enter (n := 11) Tryz.func17 rfl rfl _ (by kernel_rfl) hM ?_
  refine g_seq ?_
  refine g_region ?_
  refine g_exec 1 [0, 2] [] [] (fun _ => ⟨[(0, .v (.slice (some ⟨ab, ao, none⟩) xs.length c)), (2, .v (.slice none 0 0))], [], [], 0⟩) (fun _ => by kernel_rfl) fun _ => ?_
  refine g_end (by kernel_rfl) ?_
  refine n_then ?_
  refine g_seq ?_
  refine g_region ?_
  refine g_exec 1 [2, 4] [] [] (fun _ => ⟨[(2, .v (.slice none 0 0)), (4, .v (.slice (some ⟨ab, ao, none⟩) xs.length c))], [], [], 0⟩) (fun _ => by kernel_rfl) fun _ => ?_
  refine g_callL (dst := some 5) (g := 39) (args := [.slice (some ⟨ab, ao, none⟩) xs.length c]) [] [] (by kernel_rfl) (by kernel_rfl) (by kernel_rfl) (fun v M' Lo => ∃ b cap tail, v = .slice (some ⟨b, 0, none⟩) xs.length cap ∧ Lo = [.cells b (FL chP xs tail) 53] ∧ xs.length ≤ cap) (by intro w hst hLe; exact clone_calls hst.sat xs ab ao c (hrow.le (fun _ _ h => h)) hlen) ?_
  rintro v M3 Lo le4 (⟨b, cap, tail, rfl, rfl, hcap⟩)
  refine g_callL (dst := some 6) (g := 38) (args := [.slice (some ⟨b, 0, none⟩) xs.length cap, .func (.func 40) #[] #[]]) [0] [.cells b (FL chP xs tail) 53] (by kernel_rfl) (by kernel_rfl) (by kernel_rfl) (fun v M' Lo => ∃ tl, v = .slice (some ⟨b, 0, none⟩) (xs.filter (fun x => !(x.1 == x.2))).length cap ∧ Lo = [.cells b (FL chP (xs.filter (fun x => !(x.1 == x.2))) tl) 53] ∧ (xs.filter (fun x => !(x.1 == x.2))).length * 2 + tl.length = xs.length * 2 + tail.length) (by intro w hst hLe; exact deleteFunc_calls hst.sat xs tail b cap hcap hlen hLe (fun x => x.1 == x.2) 40 (by kernel_rfl) (fun w' M' h x => norm1_calls h x)) ?_
  rintro v M6 Lo le7 (⟨tl, rfl, rfl, _⟩)
  have hfl : (xs.filter (fun x => !(x.1 == x.2))).length ≤ xs.length := List.length_filter_le _ _
  refine g_exec 1 [2, 3] [1] [] (fun _ => ⟨[(2, .v (.slice none 0 0)), (3, .v (.slice (some ⟨b, 0, none⟩) ((xs.filter (fun x => !(x.1 == x.2))).length) cap))], [(1, .cells b (FL chP (xs.filter (fun x => !(x.1 == x.2))) tl) 53)], [], 2⟩) (fun _ => by kernel_rfl) fun _ => ?_
  refine g_end (by kernel_rfl) ?_
  refine n_then ?_
  refine g_seq ?_
  refine g_region ?_
  refine g_exec 1 [2, 3, 7] [1] [] (fun _ => ⟨[(2, .v (.slice none 0 0)), (3, .v (.slice (some ⟨b, 0, none⟩) ((xs.filter (fun x => !(x.1 == x.2))).length) cap)), (7, .v (.slice (some ⟨b, 0, none⟩) ((xs.filter (fun x => !(x.1 == x.2))).length) cap))], [(1, .cells b (FL chP (xs.filter (fun x => !(x.1 == x.2))) tl) 53)], [], 2⟩) (fun _ => by kernel_rfl) fun _ => ?_
  refine g_callL (dst := some 8) (g := 41) (args := [.slice (some ⟨b, 0, none⟩) ((xs.filter (fun x => !(x.1 == x.2))).length) cap, .func (.func 42) #[] #[]]) [1] [.cells b (FL chP (xs.filter (fun x => !(x.1 == x.2))) tl) 53] (by kernel_rfl) (by kernel_rfl) (by kernel_rfl) (fun v M' Lo => v = .tuple #[] ∧ ∃ ys, List.Perm ys (xs.filter (fun x => !(x.1 == x.2))) ∧ Sort.SortedIn (ltOf cmpP) 0 ys.length ys.toArray ∧ Lo = [.cells b (FL chP ys tl) 53]) (by intro w hst hLe; exact sortFunc_calls hst.sat (xs.filter (fun x => !(x.1 == x.2))) tl b cap (by omega) hLe) ?_
  rintro v M10 Lo le11 (⟨rfl, ys, hperm, hsorted, rfl⟩)
  have hyl := hperm.length_eq
  refine g_val 3 (v := .slice (some ⟨b, 0, none⟩) ((xs.filter (fun x => !(x.1 == x.2))).length) cap) (.slice (some ⟨b, 0, none⟩) ys.length cap) (by kernel_rfl) (by rw [hyl]) ?_
  refine g_end (by kernel_rfl) ?_
  refine n_then ?_
  refine g_seq ?_
  refine g_region ?_
  refine g_exec 1 [2, 9] [2] [] (fun _ => ⟨[(2, .v (.slice none 0 0)), (9, .v (.slice (some ⟨b, 0, none⟩) ys.length cap))], [(2, .cells b (FL chP ys tl) 53)], [], 3⟩) (fun _ => by kernel_rfl) fun _ => ?_
  refine g_callL (dst := some 10) (g := 43) (args := [.slice (some ⟨b, 0, none⟩) ys.length cap]) [2] [.cells b (FL chP ys tl) 53] (by kernel_rfl) (by kernel_rfl) (by kernel_rfl) (fun v M' Lo => ∃ tl', v = .slice (some ⟨b, 0, none⟩) (cpt ys).length cap ∧ Lo = [.cells b (FL chP (cpt ys) tl') 53] ∧ (cpt ys).length * 2 + tl'.length = ys.length * 2 + tl.length) (by intro w hst hLe; exact compactP_calls hst.sat ys tl b cap (by omega) (by omega) hLe) ?_
  rintro v M14 Lo le15 (⟨tl', rfl, rfl, _⟩)
  refine g_exec 1 [2] [3] [] (fun _ => ⟨[(2, .v (.slice (some ⟨b, 0, none⟩) ((cpt ys).length) cap))], [(3, .cells b (FL chP (cpt ys) tl') 53)], [], 4⟩) (fun _ => by kernel_rfl) fun _ => ?_
  refine g_end (by kernel_rfl) ?_
  refine n_then ?_
  refine g_ret ?_
  refine g_pubL 3 (b := b) (t := 53) (cs := FL chP (cpt ys) tl') (by rfl) ?_
  intro M17 le18 hp19
  have hys := sorted_eq hperm hsorted
  have hcl := cpt_length_le ys
  exact n_post (.slice (some ⟨b, 0, none⟩) ((cpt ys).length) cap) (by kernel_rfl) ⟨_, cap, by rw [normL, ← hys], by rw [normL, ← hys]; omega, by rw [normL, ← hys]; exact row_pubL (enc := chP) (sz := 2) (fun _ => rfl) (cpt ys) tl' hp19⟩
theorem norm_nil {M : Mem} {w : World} (hM : Sat M w) (c : Nat) : Ct Tryz.prog 17 [.slice none 0 c] [] w M (SlV chP 2 (normL [])) := by
  refine enter (n := 11) Tryz.func17 rfl rfl _ (by kernel_rfl) hM ?_
  refine g_seq ?_
  refine g_region ?_
  refine g_exec 1 [0, 2] [] [] (fun _ => ⟨[(0, .v (.slice none 0 c)), (2, .v (.slice none 0 0))], [], [], 0⟩) (fun _ => by kernel_rfl) fun _ => ?_
  refine g_end (by kernel_rfl) ?_
  refine n_then ?_
  refine g_seq ?_
  refine g_region ?_
  refine g_exec 1 [2, 4] [] [] (fun _ => ⟨[(2, .v (.slice none 0 0)), (4, .v (.slice none 0 c))], [], [], 0⟩) (fun _ => by kernel_rfl) fun _ => ?_
  refine g_call (dst := some 5) (g := 39) (args := [.slice none 0 c]) (by kernel_rfl) (by kernel_rfl) (fun v _ => v = .slice none 0 0) (by intro w hst; exact clone_nil hst.sat c) ?_
  rintro _ M3 le4 rfl
  refine g_call (dst := some 6) (g := 38) (args := [.slice none 0 0, .func (.func 40) #[] #[]]) (by kernel_rfl) (by kernel_rfl) (fun v _ => v = .slice none 0 0) (by intro w hst; exact deleteFunc_nil hst.sat 0) ?_
  rintro _ M6 le7 rfl
  refine g_exec 1 [2, 3] [] [] (fun _ => ⟨[(2, .v (.slice none 0 0)), (3, .v (.slice none 0 0))], [], [], 0⟩) (fun _ => by kernel_rfl) fun _ => ?_
  refine g_end (by kernel_rfl) ?_
  refine n_then ?_
  refine g_seq ?_
  refine g_region ?_
  refine g_exec 1 [2, 3, 7] [] [] (fun _ => ⟨[(2, .v (.slice none 0 0)), (3, .v (.slice none 0 0)), (7, .v (.slice none 0 0))], [], [], 0⟩) (fun _ => by kernel_rfl) fun _ => ?_
  refine g_call (dst := some 8) (g := 41) (args := [.slice none 0 0, .func (.func 42) #[] #[]]) (by kernel_rfl) (by kernel_rfl) (fun v _ => v = .tuple #[]) (by intro w hst; exact sortFunc_nil hst.sat 0) ?_
  rintro _ M10 le11 rfl
  refine g_end (by kernel_rfl) ?_
  refine n_then ?_
  refine g_seq ?_
  refine g_region ?_
  refine g_exec 1 [2, 9] [] [] (fun _ => ⟨[(2, .v (.slice none 0 0)), (9, .v (.slice none 0 0))], [], [], 0⟩) (fun _ => by kernel_rfl) fun _ => ?_
  refine g_call (dst := some 10) (g := 43) (args := [.slice none 0 0]) (by kernel_rfl) (by kernel_rfl) (fun v _ => v = .slice none 0 0) (by intro w hst; exact compactP_nil hst.sat 0) ?_
  rintro _ M14 le15 rfl
  refine g_exec 1 [2] [] [] (fun _ => ⟨[(2, .v (.slice none 0 0))], [], [], 0⟩) (fun _ => by kernel_rfl) fun _ => ?_
  refine g_end (by kernel_rfl) ?_
  refine n_then ?_
  refine g_ret ?_
  exact n_post (.slice none 0 0) (by kernel_rfl) (by rw [normL_nil]; exact ⟨none, 0, rfl, Nat.le_refl _, Row.nil⟩)
theorem norm_calls {M : Mem} {w : World} (hM : Sat M w) (xs : List (Int × Int)) (A : Option Addr) (c : Nat) (hrow : Row (flat chP) 2 M A xs) (hlen : xs.length ≤ 1099511627776) : Ct Tryz.prog 17 [.slice A xs.length c] [] w M (SlV chP 2 (normL xs)) := by
  rcases hrow with ⟨rfl, rfl⟩ | ⟨b, o, rfl, hc⟩
  · exact norm_nil hM c
  · exact norm_block hM xs b o c (.inr ⟨b, o, rfl, hc⟩) hlen
end Go.Ch
