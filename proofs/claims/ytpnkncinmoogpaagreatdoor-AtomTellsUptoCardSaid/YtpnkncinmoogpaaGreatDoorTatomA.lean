import Derived.Test.YtpnkncinmoogpaaGreatDoorProg
import Derived.Test.YtpnkncinmoogpaaGreatDoorChAtomP
set_option linter.unusedVariables false
namespace Go.Ch
open Go Go.Eng Go.Proofs

theorem isNaN_calls {M : Mem} {w : World} (hM : Sat M w) (a : Int) : Ct Tryz.prog 79 [.int .i64 a] [] w M (fun v _ => v = .bool false) True := by
  refine enter (n := 6) Tryz.func79 rfl rfl _ (by kernel_rfl) hM ?_
  refine g_seq ?_
  refine g_region ?_
  refine g_exec 1 [0, 2] [] [] (fun _ => ⟨[(0, .v (.int .i64 a)), (2, .v (.bool false))], [], [], 0⟩) (fun _ => by kernel_rfl) fun _ => ?_
  refine g_end (by kernel_rfl) ?_
  refine n_then ?_
  refine g_seq ?_
  refine g_region ?_
  refine g_exec 4 [2] [] [] (fun _ => ⟨[(2, .v (.bool (a != a)))], [], [], 0⟩) (fun _ => by kernel_rfl) fun _ => ?_
  refine g_end (by kernel_rfl) ?_
  refine n_then ?_
  refine g_ret ?_
  exact n_post (.bool (a != a)) (by kernel_rfl) (by simp)
theorem compare_calls {M : Mem} {w : World} (hM : Sat M w) (a b : Int) : Ct Tryz.prog 61 [.int .i64 a, .int .i64 b] [] w M (fun v _ => v = .int .i64 (cmpI a b)) True := by
  refine enter (n := 20) Tryz.func61 rfl rfl _ (by kernel_rfl) hM ?_
  refine g_seq ?_
  refine g_region ?_
  refine g_exec 1 [0, 1, 4] [] [] (fun _ => ⟨[(0, .v (.int .i64 a)), (1, .v (.int .i64 b)), (4, .v (.int .i64 0))], [], [], 0⟩) (fun _ => by kernel_rfl) fun _ => ?_
  refine g_end (by kernel_rfl) ?_
  refine n_then ?_
  refine g_seq ?_
  refine g_region ?_
  refine g_exec 1 [0, 1, 4, 7] [] [] (fun _ => ⟨[(0, .v (.int .i64 a)), (1, .v (.int .i64 b)), (4, .v (.int .i64 0)), (7, .v (.int .i64 a))], [], [], 0⟩) (fun _ => by kernel_rfl) fun _ => ?_
  refine g_call (dst := some 8) (g := 79) (args := [.int .i64 a]) (by kernel_rfl) (by kernel_rfl) (fun v _ => v = .bool false) (by intro w hst; exact isNaN_calls hst.sat a) ?_
  rintro _ M3 le4 rfl
  refine g_exec 1 [0, 1, 4, 5] [] [] (fun _ => ⟨[(0, .v (.int .i64 a)), (1, .v (.int .i64 b)), (4, .v (.int .i64 0)), (5, .v (.bool false))], [], [], 0⟩) (fun _ => by kernel_rfl) fun _ => ?_
  refine g_end (by kernel_rfl) ?_
  refine n_then ?_
  refine g_seq ?_
  refine g_region ?_
  refine g_exec 1 [0, 1, 4, 5, 9] [] [] (fun _ => ⟨[(0, .v (.int .i64 a)), (1, .v (.int .i64 b)), (4, .v (.int .i64 0)), (5, .v (.bool false)), (9, .v (.int .i64 b))], [], [], 0⟩) (fun _ => by kernel_rfl) fun _ => ?_
  refine g_call (dst := some 10) (g := 79) (args := [.int .i64 b]) (by kernel_rfl) (by kernel_rfl) (fun v _ => v = .bool false) (by intro w hst; exact isNaN_calls hst.sat b) ?_
  rintro _ M7 le8 rfl
  refine g_exec 1 [0, 1, 4, 5, 6] [] [] (fun _ => ⟨[(0, .v (.int .i64 a)), (1, .v (.int .i64 b)), (4, .v (.int .i64 0)), (5, .v (.bool false)), (6, .v (.bool false))], [], [], 0⟩) (fun _ => by kernel_rfl) fun _ => ?_
  refine g_end (by kernel_rfl) ?_
  refine n_then ?_
  refine g_seq ?_
  refine g_seq ?_
  refine g_region ?_
  refine g_exec 1 [0, 1, 4, 6, 11] [] [] (fun _ => ⟨[(0, .v (.int .i64 a)), (1, .v (.int .i64 b)), (4, .v (.int .i64 0)), (6, .v (.bool false)), (11, .v (.bool false))], [], [], 0⟩) (fun _ => by kernel_rfl) fun _ => ?_
  refine g_end (by kernel_rfl) ?_
  refine n_then ?_
  refine g_cond false (by kernel_rfl) (fun hc => ?_) (fun hc => ?_)
  · cases hc
  · refine g_skip ?_
    refine n_then ?_
    refine g_seq ?_
    refine g_seq ?_
    refine g_region ?_
    refine g_exec 1 [0, 1, 4, 13] [] [] (fun _ => ⟨[(0, .v (.int .i64 a)), (1, .v (.int .i64 b)), (4, .v (.int .i64 0)), (13, .v (.bool false))], [], [], 0⟩) (fun _ => by kernel_rfl) fun _ => ?_
    refine g_end (by kernel_rfl) ?_
    refine n_then ?_
    refine g_cond false (by kernel_rfl) (fun hc => ?_) (fun hc => ?_)
    · cases hc
    · refine g_skip ?_
      refine n_then ?_
      refine g_seq ?_
      refine g_seq ?_
      refine g_region ?_
      refine g_exec 3 [0, 1, 4, 16] [] [] (fun _ => ⟨[(0, .v (.int .i64 a)), (1, .v (.int .i64 b)), (4, .v (.int .i64 0)), (16, .v (.bool (decide (a < b))))], [], [], 0⟩) (fun _ => by kernel_rfl) fun _ => ?_
      refine g_end (by kernel_rfl) ?_
      refine n_then ?_
      refine g_cond (decide (a < b)) (by kernel_rfl) (fun hc13 => ?_) (fun hc13 => ?_)
      · replace hc13 := of_decide_eq_true hc13
        refine g_seq ?_
        refine g_region ?_
        refine g_exec 1 [0, 1, 4] [] [] (fun _ => ⟨[(0, .v (.int .i64 a)), (1, .v (.int .i64 b)), (4, .v (.int .i64 (-1)))], [], [], 0⟩) (fun _ => by kernel_rfl) fun _ => ?_
        refine g_end (by kernel_rfl) ?_
        refine n_then ?_
        refine g_ret ?_
        refine n_then_ret ?_
        exact n_post (.int .i64 (-1)) (by kernel_rfl) (by unfold cmpI; congr 1; split <;> (try split) <;> omega)
      · replace hc13 := of_decide_eq_false hc13
        refine g_skip ?_
        refine n_then ?_
        refine g_seq ?_
        refine g_seq ?_
        refine g_region ?_
        refine g_exec 3 [4, 19] [] [] (fun _ => ⟨[(4, .v (.int .i64 0)), (19, .v (.bool (decide (a > b))))], [], [], 0⟩) (fun _ => by kernel_rfl) fun _ => ?_
        refine g_end (by kernel_rfl) ?_
        refine n_then ?_
        refine g_cond (decide (a > b)) (by kernel_rfl) (fun hc16 => ?_) (fun hc16 => ?_)
        · replace hc16 := of_decide_eq_true hc16
          refine g_seq ?_
          refine g_region ?_
          refine g_exec 1 [4] [] [] (fun _ => ⟨[(4, .v (.int .i64 1))], [], [], 0⟩) (fun _ => by kernel_rfl) fun _ => ?_
          refine g_end (by kernel_rfl) ?_
          refine n_then ?_
          refine g_ret ?_
          refine n_then_ret ?_
          exact n_post (.int .i64 1) (by kernel_rfl) (by unfold cmpI; congr 1; split <;> (try split) <;> omega)
        · replace hc16 := of_decide_eq_false hc16
          refine g_skip ?_
          refine n_then ?_
          refine g_seq ?_
          refine g_region ?_
          refine g_exec 1 [4] [] [] (fun _ => ⟨[(4, .v (.int .i64 0))], [], [], 0⟩) (fun _ => by kernel_rfl) fun _ => ?_
          refine g_end (by kernel_rfl) ?_
          refine n_then ?_
          refine g_ret ?_
          exact n_post (.int .i64 0) (by kernel_rfl) (by unfold cmpI; congr 1; split <;> (try split) <;> omega)
theorem or_calls {M : Mem} {w : World} (hM : Sat M w) (xs : List Int) (A : Option Addr) (c : Nat) (hrow : Row (flat chI) 1 M A xs) (hlen : xs.length ≤ 1099511627776) : Ct Tryz.prog 60 [.slice A xs.length c] [] w M (fun v _ => v = .int .i64 (orI xs)) True := by
  refine enter (n := 18) Tryz.func60 rfl rfl _ (by kernel_rfl) hM ?_
  refine g_seq ?_
  refine g_region ?_
  refine g_exec 1 [0, 2] [] [] (fun _ => ⟨[(0, .v (.slice A xs.length c)), (2, .v (.int .i64 0))], [], [], 0⟩) (fun _ => by kernel_rfl) fun _ => ?_
  refine g_end (by kernel_rfl) ?_
  refine n_then ?_
  refine g_seq ?_
  refine g_region ?_
  refine g_exec 1 [0, 2, 3] [] [] (fun _ => ⟨[(0, .v (.slice A xs.length c)), (2, .v (.int .i64 0)), (3, .v (.int .i64 0))], [], [], 0⟩) (fun _ => by kernel_rfl) fun _ => ?_
  refine g_end (by kernel_rfl) ?_
  refine n_then ?_
  refine g_seq ?_
  refine g_seq ?_
  refine g_region ?_
  refine g_exec 3 [2, 3, 6, 7, 8] [] [] (fun _ => ⟨[(2, .v (.int .i64 0)), (3, .v (.int .i64 0)), (6, .v (.slice A xs.length c)), (7, .v (.int .i64 ((xs.length : Nat) : Int))), (8, .v (.int .i64 0))], [], [], 0⟩) (fun _ => by kernel_rfl) fun _ => ?_
  refine g_end (by kernel_rfl) ?_
  refine n_then ?_
  refine g_block ?_
  refine g_fin [2, 3, 6, 7, 8] [] [] ⟨[(2, .v (.int .i64 0)), (3, .v (.int .i64 0)), (6, .v (.slice A xs.length c)), (7, .v (.int .i64 ((xs.length : Nat) : Int))), (8, .v (.int .i64 0))], [], [], 0⟩ (by kernel_rfl) ?_
  refine g_while (ι := Nat) (fun k M4 s => s = ⟨[(2, .v (.int .i64 0)), (3, .v (.int .i64 0)), (6, .v (.slice A xs.length c)), (7, .v (.int .i64 ((xs.length : Nat) : Int))), (8, .v (.int .i64 (k : Int)))], [], [], 0⟩ ∧ (k ≤ xs.length ∧ ∀ y ∈ xs.take k, y = 0) ∧ (∀ a u, M a = some u → M4 a = some u)) (fun k => xs.length - k) 0 ⟨rfl, ⟨Nat.zero_le _, by simp⟩, (fun _ _ h => h)⟩ ?_
  rintro k M4 _ ⟨rfl, ⟨hk, hall⟩, le5⟩
  refine g_seq ?_
  refine g_region ?_
  refine g_exec 1 [2, 3, 6, 7, 8, 9] [] [] (fun _ => ⟨[(2, .v (.int .i64 0)), (3, .v (.int .i64 0)), (6, .v (.slice A xs.length c)), (7, .v (.int .i64 ((xs.length : Nat) : Int))), (8, .v (.int .i64 (k : Int))), (9, .v (.bool (decide ((k : Int) < ((xs.length : Nat) : Int)))))], [], [], 0⟩) (fun _ => by kernel_rfl) fun _ => ?_
  refine g_end (by kernel_rfl) ?_
  refine n_then ?_
  refine g_seq ?_
  refine g_cond (decide ((k : Int) < ((xs.length : Nat) : Int))) (by kernel_rfl) (fun hc7 => ?_) (fun hc7 => ?_)
  · replace hc7 := of_decide_eq_true hc7
    refine g_skip ?_
    refine n_then ?_
    refine g_seq ?_
    refine g_block ?_
    refine g_seq ?_
    refine g_region ?_
    obtain ⟨x11, hx11⟩ : ∃ p, xs[k]? = some p := ⟨_, List.getElem?_eq_getElem (show k < xs.length by omega)⟩
    obtain ⟨b9, o10, _, rfl, rfl, _, heb9⟩ := hrow.at hx11
    refine g_yld (y_index (dst := some 10) (b := b9) (o := o10) (len := xs.length) (kk := .i64) (ii := (k : Int)) (sz := 1) (by kernel_rfl) (by omega) (by omega)) ?_
    refine g_yld (y_load1 (dst := some 11) (ad := ⟨b9, o10 + k * 1, none⟩) (sz := 1) (by kernel_rfl) (v := .int .i64 x11) (le5 _ _ (heb9 0 _ rfl))) ?_
    refine g_exec 1 [2, 3, 5, 6, 7, 8] [] [] (fun _ => ⟨[(2, .v (.int .i64 0)), (3, .v (.int .i64 0)), (5, .v (.int .i64 x11)), (6, .v (.slice (some ⟨b9, o10, none⟩) xs.length c)), (7, .v (.int .i64 ((xs.length : Nat) : Int))), (8, .v (.int .i64 (k : Int)))], [], [], 0⟩) (fun _ => by kernel_rfl) fun _ => ?_
    refine g_end (by kernel_rfl) ?_
    refine n_then ?_
    refine g_seq ?_
    refine g_region ?_
    refine g_exec 3 [2, 3, 5, 6, 7, 8, 14] [] [] (fun _ => ⟨[(2, .v (.int .i64 0)), (3, .v (.int .i64 0)), (5, .v (.int .i64 x11)), (6, .v (.slice (some ⟨b9, o10, none⟩) xs.length c)), (7, .v (.int .i64 ((xs.length : Nat) : Int))), (8, .v (.int .i64 (k : Int))), (14, .v (.bool (x11 != 0)))], [], [], 0⟩) (fun _ => by kernel_rfl) fun _ => ?_
    refine g_end (by kernel_rfl) ?_
    refine n_then ?_
    refine g_cond ((x11 != 0)) (by kernel_rfl) (fun hc15 => ?_) (fun hc15 => ?_)
    · have hx0 := hc15
      simp only [bne_iff_ne, ne_eq, bne_eq_false_iff_eq, Bool.not_eq_true', beq_eq_false_iff_ne, Bool.not_eq_false', beq_iff_eq] at hx0
      refine g_seq ?_
      refine g_region ?_
      refine g_exec 2 [2, 3, 6, 7, 8] [] [] (fun _ => ⟨[(2, .v (.int .i64 x11)), (3, .v (.int .i64 0)), (6, .v (.slice (some ⟨b9, o10, none⟩) xs.length c)), (7, .v (.int .i64 ((xs.length : Nat) : Int))), (8, .v (.int .i64 (k : Int)))], [], [], 0⟩) (fun _ => by kernel_rfl) fun _ => ?_
      refine g_end (by kernel_rfl) ?_
      refine n_then ?_
      refine g_ret ?_
      refine n_block_ret ?_
      refine n_then_ret ?_
      refine n_then_ret ?_
      refine n_block_ret ?_
      refine n_then_ret ?_
      exact n_post (.int .i64 x11) (by kernel_rfl) (by rw [orI_found hall hx11 hx0])
    · have hx0 := hc15
      simp only [bne_iff_ne, ne_eq, bne_eq_false_iff_eq, Bool.not_eq_true', beq_eq_false_iff_ne, Bool.not_eq_false', beq_iff_eq] at hx0
      refine g_skip ?_
      refine n_block ?_
      refine n_then ?_
      refine g_region ?_
      refine g_exec 2 [2, 3, 6, 7, 8] [] [] (fun _ => ⟨[(2, .v (.int .i64 0)), (3, .v (.int .i64 0)), (6, .v (.slice (some ⟨b9, o10, none⟩) xs.length c)), (7, .v (.int .i64 ((xs.length : Nat) : Int))), (8, .v (.int .i64 (IntKind.i64.wrap ((k : Int) + 1))))], [], [], 0⟩) (fun _ => by kernel_rfl) fun _ => ?_
      refine g_end (by kernel_rfl) ?_
      refine n_then ?_
      refine g_val 8 (v := .int .i64 (IntKind.i64.wrap ((k : Int) + 1))) (.int .i64 ((k + 1 : Nat) : Int)) (by kernel_rfl) (by rw [wrapN k (by omega)]) ?_
      refine g_fin [2, 3, 6, 7, 8] [] [] ⟨[(2, .v (.int .i64 0)), (3, .v (.int .i64 0)), (6, .v (.slice (some ⟨b9, o10, none⟩) xs.length c)), (7, .v (.int .i64 ((xs.length : Nat) : Int))), (8, .v (.int .i64 ((k + 1 : Nat) : Int)))], [], [], 0⟩ (by kernel_rfl) ?_
      exact g_again (k + 1) ⟨rfl, ⟨by omega, all_take_succ hall hx11 hx0⟩, (fun _ _ h => (le5 _ _ h))⟩ (by omega)
  · replace hc7 := of_decide_eq_false hc7
    refine g_exit ?_
    refine n_then_exit ?_
    refine n_then_exit ?_
    refine n_block_exit ?_
    refine n_then ?_
    refine g_seq ?_
    refine g_region ?_
    refine g_exec 2 [2] [] [] (fun _ => ⟨[(2, .v (.int .i64 0))], [], [], 0⟩) (fun _ => by kernel_rfl) fun _ => ?_
    refine g_end (by kernel_rfl) ?_
    refine n_then ?_
    refine g_ret ?_
    exact n_post (.int .i64 0) (by kernel_rfl) (by rw [orI_none (by have := hall; rw [show k = xs.length by omega, List.take_length] at this; exact this)])
theorem order_calls {M : Mem} {w : World} (hM : Sat M w) (x y : Int × Int) : Ct Tryz.prog 42 [.agg #[.int .i64 x.1, .int .i64 x.2], .agg #[.int .i64 y.1, .int .i64 y.2]] [] w M (fun v _ => v = .int .i64 (cmpP x y)) True := by
  refine enter (n := 17) Tryz.func42 rfl rfl _ (by kernel_rfl) hM ?_
  refine g_seq ?_
  refine g_region ?_
  refine g_exec 3 [2, 3, 4] [0, 1] [] (fun f1 => ⟨[(2, .l 0 (f1 0) 0), (3, .l 1 (f1 1) 0), (4, .v (.int .i64 0))], [(1, .cells (f1 1) [.int .i64 y.1, .int .i64 y.2] 53), (0, .cells (f1 0) [.int .i64 x.1, .int .i64 x.2] 53)], [], 2⟩) (fun _ => by kernel_rfl) fun f1 => ?_
  refine g_end (by kernel_rfl) ?_
  refine n_then ?_
  refine g_seq ?_
  refine d_begin (by kernel_rfl) [0, 1] [] 13 (by kernel_rfl) ?_
  refine dx_exec (fuel := 5) [0, 1] [0, 1, 2, 3, 5, 6, 7, 8] [4, 6, 8, 11, 13] [0, 1] [] [true, true, true, true, false, true, true, true, true, false, false, false, false] ⟨[(4, .v (.int .i64 0)), (6, .v (.int .i64 x.1)), (8, .v (.int .i64 y.1)), (11, .v (.int .i64 x.2)), (13, .v (.int .i64 y.2))], [(1, .cells (f1 1) [.int .i64 y.1, .int .i64 y.2] 53), (0, .cells (f1 0) [.int .i64 x.1, .int .i64 x.2] 53)], [], 2⟩ (by kernel_rfl) (fun _ _ h => h) (by kernel_rfl) (by kernel_rfl) ?_ rfl
  refine dx_op (fuel := 4) (i := 4) [true, true, true, true, true, true, true, true, true, false, false, false, false] (by kernel_rfl) (by kernel_rfl) ?_ rfl
  refine o_call (dst := some 9) (g := 61) (args := [.int .i64 x.1, .int .i64 y.1]) (by kernel_rfl) (by kernel_rfl) (fun v _ => v = .int .i64 (cmpI x.1 y.1)) (by intro w hst; exact compare_calls hst.sat x.1 y.1) ?_
  rintro _ M2 le3 rfl
  refine dx_know [0, 1] (fun _ _ h => (le3 _ _ h)) (by kernel_rfl) ?_
  refine dx_op (fuel := 3) (i := 9) [true, true, true, true, true, true, true, true, true, true, false, false, false] (by kernel_rfl) (by kernel_rfl) ?_ rfl
  refine o_call (dst := some 14) (g := 61) (args := [.int .i64 x.2, .int .i64 y.2]) (by kernel_rfl) (by kernel_rfl) (fun v _ => v = .int .i64 (cmpI x.2 y.2)) (by intro w hst; exact compare_calls hst.sat x.2 y.2) ?_
  rintro _ M4 le5 rfl
  refine dx_know [0, 1] (fun _ _ h => (le5 _ _ (le3 _ _ h))) (by kernel_rfl) ?_
  refine dx_op (fuel := 2) (i := 10) [true, true, true, true, true, true, true, true, true, true, true, false, false] (by kernel_rfl) (by kernel_rfl) ?_ rfl
  refine o_step (used := true) (fun n6 => ⟨[(15, .v (.slice (some ⟨n6, 0, none⟩) 2 2)), (14, .v (.int .i64 (cmpI x.2 y.2))), (9, .v (.int .i64 (cmpI x.1 y.1))), (4, .v (.int .i64 0)), (6, .v (.int .i64 x.1)), (8, .v (.int .i64 y.1)), (11, .v (.int .i64 x.2)), (13, .v (.int .i64 y.2))], [(2, .cells n6 [.int .i64 (cmpI x.1 y.1), .int .i64 (cmpI x.2 y.2)] 3), (1, .cells (f1 1) [.int .i64 y.1, .int .i64 y.2] 53), (0, .cells (f1 0) [.int .i64 x.1, .int .i64 x.2] 53)], [], 3⟩) rfl (by kernel_rfl) (fun _ => by kernel_rfl) (fun n6 => ?_)
  refine dx_know [0, 1] (fun _ _ h => (le5 _ _ (le3 _ _ h))) (by kernel_rfl) ?_
  refine g_pubL 2 (b := n6) (t := 3) (cs := [.int .i64 (cmpI x.1 y.1), .int .i64 (cmpI x.2 y.2)]) (by rfl) ?_
  intro M7 le8 hp9
  have hlit := row_pubL (enc := chI) (sz := 1) (fun _ => rfl) [cmpI x.1 y.1, cmpI x.2 y.2] [] hp9
  refine dx_op (fuel := 1) (i := 11) [true, true, true, true, true, true, true, true, true, true, true, true, false] (by kernel_rfl) (by kernel_rfl) ?_ rfl
  refine o_call (dst := some 16) (g := 60) (args := [.slice (some ⟨n6, 0, none⟩) 2 2]) (by kernel_rfl) (by kernel_rfl) (fun v _ => v = .int .i64 (orI [cmpI x.1 y.1, cmpI x.2 y.2])) (by intro w hst; exact or_calls hst.sat [cmpI x.1 y.1, cmpI x.2 y.2] _ _ hlit (by simp)) ?_
  rintro _ M10 le11 rfl
  refine dx_know [0, 1] (fun _ _ h => (le11 _ _ (le8 _ _ (le5 _ _ (le3 _ _ h))))) (by kernel_rfl) ?_
  refine dx_exec (fuel := 0) [0, 1] [12] [4] [0, 1] [] [true, true, true, true, true, true, true, true, true, true, true, true, true] ⟨[(4, .v (.int .i64 (orI [cmpI x.1 y.1, cmpI x.2 y.2])))], [(1, .cells (f1 1) [.int .i64 y.1, .int .i64 y.2] 53), (0, .cells (f1 0) [.int .i64 x.1, .int .i64 x.2] 53)], [], 2⟩ (by kernel_rfl) (fun _ _ h => (le11 _ _ (le8 _ _ (le5 _ _ (le3 _ _ h))))) (by kernel_rfl) (by kernel_rfl) ?_ rfl
  refine d_end (by kernel_rfl) ?_
  refine n_then ?_
  refine g_ret ?_
  exact n_post (.int .i64 (orI [cmpI x.1 y.1, cmpI x.2 y.2])) (by kernel_rfl) rfl
theorem norm1_calls {M : Mem} {w : World} (hM : Sat M w) (x : Int × Int) : Ct Tryz.prog 40 [.agg #[.int .i64 x.1, .int .i64 x.2]] [] w M (fun v _ => v = .bool (x.1 == x.2)) := by
  refine enter (n := 8) Tryz.func40 rfl rfl _ (by kernel_rfl) hM ?_
  refine g_seq ?_
  refine g_region ?_
  refine g_exec 2 [1, 2] [0] [] (fun f1 => ⟨[(1, .l 0 (f1 0) 0), (2, .v (.bool false))], [(0, .cells (f1 0) [.int .i64 x.1, .int .i64 x.2] 53)], [], 1⟩) (fun _ => by kernel_rfl) fun f1 => ?_
  refine g_end (by kernel_rfl) ?_
  refine n_then ?_
  refine g_seq ?_
  refine g_region ?_
  refine g_exec 6 [2] [] [] (fun _ => ⟨[(2, .v (.bool (x.1 == x.2)))], [], [], 0⟩) (fun _ => by kernel_rfl) fun _ => ?_
  refine g_end (by kernel_rfl) ?_
  refine n_then ?_
  refine g_ret ?_
  exact n_post (.bool (x.1 == x.2)) (by kernel_rfl) rfl
theorem indexFunc_calls {M : Mem} {w : World} (hM : Sat M w) (xs : List (Int × Int)) (tail : List Value) (b cap : Nat) (hcap : xs.length ≤ cap) (hlen : xs.length ≤ 1099511627776) (hLent : Lent [.cells b (FL chP xs tail) 53] M w) (d : Int × Int → Bool) (g : Nat) (hg : goes Tryz.prog g = true) (hd : ∀ w M, Sat M w → ∀ x : Int × Int, Ct Tryz.prog g [.agg #[.int .i64 x.1, .int .i64 x.2]] [] w M (fun v _ => v = .bool (d x))) : CtL Tryz.prog 57 [.slice (some ⟨b, 0, none⟩) xs.length cap, .func (.func g) #[] (([] : List Value)).toArray] [.cells b (FL chP xs tail) 53] w M (fun v M' Lo => Lo = [.cells b (FL chP xs tail) 53] ∧ ((v = .int .i64 (-1) ∧ ∀ y ∈ xs, d y = false) ∨ ∃ (k : Nat) (x : Int × Int), v = .int .i64 (k : Int) ∧ xs[k]? = some x ∧ d x = true ∧ ∀ y ∈ xs.take k, d y = false)) := by
  refine enterL (n := 19) Tryz.func57 rfl rfl _ (by kernel_rfl) hM hLent ?_
  refine g_seq ?_
  refine g_region ?_
  refine g_exec 1 [0, 1, 4] [0] [] (fun _ => ⟨[(0, .v (.slice (some ⟨b, 0, none⟩) xs.length cap)), (1, .v (.func (.func g) #[] [].toArray)), (4, .v (.int .i64 0))], [(0, .cells b (FL chP xs tail) 53)], [], 1⟩) (fun _ => by kernel_rfl) fun _ => ?_
  refine g_end (by kernel_rfl) ?_
  refine n_then ?_
  refine g_seq ?_
  refine g_seq ?_
  refine g_region ?_
  refine g_exec 3 [0, 1, 4, 7, 8] [0] [] (fun _ => ⟨[(0, .v (.slice (some ⟨b, 0, none⟩) xs.length cap)), (1, .v (.func (.func g) #[] [].toArray)), (4, .v (.int .i64 0)), (7, .v (.int .i64 ((xs.length : Nat) : Int))), (8, .v (.int .i64 0))], [(0, .cells b (FL chP xs tail) 53)], [], 1⟩) (fun _ => by kernel_rfl) fun _ => ?_
  refine g_end (by kernel_rfl) ?_
  refine n_then ?_
  refine g_block ?_
  refine g_fin [0, 1, 4, 7, 8] [0] [] ⟨[(0, .v (.slice (some ⟨b, 0, none⟩) xs.length cap)), (1, .v (.func (.func g) #[] [].toArray)), (4, .v (.int .i64 0)), (7, .v (.int .i64 ((xs.length : Nat) : Int))), (8, .v (.int .i64 0))], [(0, .cells b (FL chP xs tail) 53)], [], 1⟩ (by kernel_rfl) ?_
  refine g_while (ι := Nat) (fun k M3 s => s = ⟨[(0, .v (.slice (some ⟨b, 0, none⟩) xs.length cap)), (1, .v (.func (.func g) #[] [].toArray)), (4, .v (.int .i64 0)), (7, .v (.int .i64 ((xs.length : Nat) : Int))), (8, .v (.int .i64 (k : Int)))], [(0, .cells b (FL chP xs tail) 53)], [], 1⟩ ∧ (k ≤ xs.length ∧ ∀ y ∈ xs.take k, d y = false) ∧ (∀ a u, M a = some u → M3 a = some u)) (fun k => xs.length - k) 0 ⟨rfl, ⟨Nat.zero_le _, by simp⟩, (fun _ _ h => h)⟩ ?_
  rintro k M3 _ ⟨rfl, ⟨hk, hall⟩, le4⟩
  refine g_seq ?_
  refine g_region ?_
  refine g_exec 1 [0, 1, 4, 7, 8, 9] [0] [] (fun _ => ⟨[(0, .v (.slice (some ⟨b, 0, none⟩) xs.length cap)), (1, .v (.func (.func g) #[] [].toArray)), (4, .v (.int .i64 0)), (7, .v (.int .i64 ((xs.length : Nat) : Int))), (8, .v (.int .i64 (k : Int))), (9, .v (.bool (decide ((k : Int) < ((xs.length : Nat) : Int)))))], [(0, .cells b (FL chP xs tail) 53)], [], 1⟩) (fun _ => by kernel_rfl) fun _ => ?_
  refine g_end (by kernel_rfl) ?_
  refine n_then ?_
  refine g_seq ?_
  refine g_cond (decide ((k : Int) < ((xs.length : Nat) : Int))) (by kernel_rfl) (fun hc6 => ?_) (fun hc6 => ?_)
  · replace hc6 := of_decide_eq_true hc6
    refine g_skip ?_
    refine n_then ?_
    refine g_seq ?_
    refine g_block ?_
    refine g_seq ?_
    refine g_region ?_
    refine g_exec 2 [0, 1, 4, 5, 7, 8] [0] [] (fun _ => ⟨[(0, .v (.slice (some ⟨b, 0, none⟩) xs.length cap)), (1, .v (.func (.func g) #[] [].toArray)), (4, .v (.int .i64 0)), (5, .v (.int .i64 (k : Int))), (7, .v (.int .i64 ((xs.length : Nat) : Int))), (8, .v (.int .i64 (k : Int)))], [(0, .cells b (FL chP xs tail) 53)], [], 1⟩) (fun _ => by kernel_rfl) fun _ => ?_
    refine g_end (by kernel_rfl) ?_
    refine n_then ?_
    refine g_seq ?_
    refine g_region ?_
    refine g_exec 3 [0, 1, 4, 5, 7, 8, 11, 12, 13] [0] [] (fun _ => ⟨[(0, .v (.slice (some ⟨b, 0, none⟩) xs.length cap)), (1, .v (.func (.func g) #[] [].toArray)), (4, .v (.int .i64 0)), (5, .v (.int .i64 (k : Int))), (7, .v (.int .i64 ((xs.length : Nat) : Int))), (8, .v (.int .i64 (k : Int))), (11, .v (.func (.func g) #[] [].toArray)), (12, .v (.slice (some ⟨b, 0, none⟩) xs.length cap)), (13, .v (.int .i64 (k : Int)))], [(0, .cells b (FL chP xs tail) 53)], [], 1⟩) (fun _ => by kernel_rfl) fun _ => ?_
    refine g_yld (y_index (dst := some 14) (b := b) (o := 0) (len := xs.length) (kk := .i64) (ii := (k : Int)) (sz := 2) (by kernel_rfl) (by omega) (by omega)) ?_
    obtain ⟨x10, hx10⟩ : ∃ p, (xs)[k]? = some p := ⟨_, List.getElem?_eq_getElem (show k < (xs).length by (try simp only [List.length_set]); omega)⟩
    have oe11 : 0 + k * 2 = k * 2 := by omega
    refine g_yldO 0 (b := b) (t := 53) (cs := FL chP xs tail) (by rfl) (y_loads (dst := some 15) (b := b) (o := 0 + k * 2) (sz := 2) (by kernel_rfl) (cs := [.int .i64 x10.1, .int .i64 x10.2]) rfl (fun j v hj => ov_at (cs := FL chP xs tail) (o := 0 + k * 2 + j) (by rw [oe11]; exact FL_get (enc := chP) (sz := 2) (fun _ => rfl) hx10 j v hj))) ?_
    refine g_call (dst := some 16) (g := g) (args := ([.agg #[.int .i64 x10.1, .int .i64 x10.2]] ++ [])) (by kernel_rfl) hg (fun v _ => v = .bool (d x10)) (by intro w hst; exact hd _ _ hst.sat x10) ?_
    rintro _ M13 le14 rfl
    refine g_end (by kernel_rfl) ?_
    refine n_then ?_
    refine g_cond ((d x10)) (by kernel_rfl) (fun hc16 => ?_) (fun hc16 => ?_)
    · refine g_seq ?_
      refine g_region ?_
      refine g_exec 2 [0, 1, 4, 7, 8] [0] [] (fun _ => ⟨[(0, .v (.slice (some ⟨b, 0, none⟩) xs.length cap)), (1, .v (.func (.func g) #[] [].toArray)), (4, .v (.int .i64 (k : Int))), (7, .v (.int .i64 ((xs.length : Nat) : Int))), (8, .v (.int .i64 (k : Int)))], [(0, .cells b (FL chP xs tail) 53)], [], 1⟩) (fun _ => by kernel_rfl) fun _ => ?_
      refine g_end (by kernel_rfl) ?_
      refine n_then ?_
      refine g_ret ?_
      refine n_block_ret ?_
      refine n_then_ret ?_
      refine n_then_ret ?_
      refine n_block_ret ?_
      refine n_then_ret ?_
      exact n_postL [0] [.cells b (FL chP xs tail) 53] (by rfl) (.int .i64 (k : Int)) (by kernel_rfl) ⟨rfl, .inr ⟨k, x10, rfl, hx10, hc16, hall⟩⟩
    · refine g_skip ?_
      refine n_block ?_
      refine n_then ?_
      refine g_region ?_
      refine g_exec 2 [0, 1, 4, 7, 8] [0] [] (fun _ => ⟨[(0, .v (.slice (some ⟨b, 0, none⟩) xs.length cap)), (1, .v (.func (.func g) #[] [].toArray)), (4, .v (.int .i64 0)), (7, .v (.int .i64 ((xs.length : Nat) : Int))), (8, .v (.int .i64 (IntKind.i64.wrap ((k : Int) + 1))))], [(0, .cells b (FL chP xs tail) 53)], [], 1⟩) (fun _ => by kernel_rfl) fun _ => ?_
      refine g_end (by kernel_rfl) ?_
      refine n_then ?_
      refine g_val 8 (v := .int .i64 (IntKind.i64.wrap ((k : Int) + 1))) (.int .i64 ((k + 1 : Nat) : Int)) (by kernel_rfl) (by rw [wrapN k (by omega)]) ?_
      refine g_fin [0, 1, 4, 7, 8] [0] [] ⟨[(0, .v (.slice (some ⟨b, 0, none⟩) xs.length cap)), (1, .v (.func (.func g) #[] [].toArray)), (4, .v (.int .i64 0)), (7, .v (.int .i64 ((xs.length : Nat) : Int))), (8, .v (.int .i64 ((k + 1 : Nat) : Int)))], [(0, .cells b (FL chP xs tail) 53)], [], 1⟩ (by kernel_rfl) ?_
      exact g_again (k + 1) ⟨rfl, ⟨by omega, all_take_succ (p := fun y => d y = false) hall hx10 hc16⟩, (fun _ _ h => (le14 _ _ (le4 _ _ h)))⟩ (by omega)
  · replace hc6 := of_decide_eq_false hc6
    refine g_exit ?_
    refine n_then_exit ?_
    refine n_then_exit ?_
    refine n_block_exit ?_
    refine n_then ?_
    refine g_seq ?_
    refine g_region ?_
    refine g_exec 1 [4] [0] [] (fun _ => ⟨[(4, .v (.int .i64 (-1)))], [(0, .cells b (FL chP xs tail) 53)], [], 1⟩) (fun _ => by kernel_rfl) fun _ => ?_
    refine g_end (by kernel_rfl) ?_
    refine n_then ?_
    refine g_ret ?_
    exact n_postL [0] [.cells b (FL chP xs tail) 53] (by rfl) (.int .i64 (-1)) (by kernel_rfl) ⟨rfl, .inl ⟨rfl, by have := hall; rw [show k = xs.length by omega, List.take_length] at this; exact this⟩⟩
theorem deleteFunc_calls {M : Mem} {w : World} (hM : Sat M w) (xs : List (Int × Int)) (tail : List Value) (b cap : Nat) (hcap : xs.length ≤ cap) (hlen : xs.length ≤ 1099511627776) (hLent : Lent [.cells b (FL chP xs tail) 53] M w) (d : Int × Int → Bool) (g : Nat) (hg : goes Tryz.prog g = true) (hd : ∀ w M, Sat M w → ∀ x : Int × Int, Ct Tryz.prog g [.agg #[.int .i64 x.1, .int .i64 x.2]] [] w M (fun v _ => v = .bool (d x))) : CtL Tryz.prog 38 [.slice (some ⟨b, 0, none⟩) xs.length cap, .func (.func g) #[] (([] : List Value)).toArray] [.cells b (FL chP xs tail) 53] w M (fun v M' Lo => ∃ tl, v = .slice (some ⟨b, 0, none⟩) (xs.filter (fun x => !d x)).length cap ∧ Lo = [.cells b (FL chP (xs.filter (fun x => !d x)) tl) 53] ∧ (xs.filter (fun x => !d x)).length * 2 + tl.length = xs.length * 2 + tail.length) := by
  refine enterL (n := 42) Tryz.func38 rfl rfl _ (by kernel_rfl) hM hLent ?_
  refine g_seq ?_
  refine g_region ?_
  refine g_exec 1 [0, 1, 4] [0] [] (fun _ => ⟨[(0, .v (.slice (some ⟨b, 0, none⟩) xs.length cap)), (1, .v (.func (.func g) #[] [].toArray)), (4, .v (.slice none 0 0))], [(0, .cells b (FL chP xs tail) 53)], [], 1⟩) (fun _ => by kernel_rfl) fun _ => ?_
  refine g_end (by kernel_rfl) ?_
  refine n_then ?_
  refine g_seq ?_
  refine g_region ?_
  refine g_exec 2 [0, 1, 4, 8, 9] [0] [] (fun _ => ⟨[(0, .v (.slice (some ⟨b, 0, none⟩) xs.length cap)), (1, .v (.func (.func g) #[] [].toArray)), (4, .v (.slice none 0 0)), (8, .v (.slice (some ⟨b, 0, none⟩) xs.length cap)), (9, .v (.func (.func g) #[] [].toArray))], [(0, .cells b (FL chP xs tail) 53)], [], 1⟩) (fun _ => by kernel_rfl) fun _ => ?_
  refine g_callL (dst := some 10) (g := 57) (args := [.slice (some ⟨b, 0, none⟩) xs.length cap, .func (.func g) #[] [].toArray]) [0] [.cells b (FL chP xs tail) 53] (by kernel_rfl) (by kernel_rfl) (by kernel_rfl) (fun v M' Lo => Lo = [.cells b (FL chP xs tail) 53] ∧ ((v = .int .i64 (-1) ∧ ∀ y ∈ xs, d y = false) ∨ ∃ (k : Nat) (x : Int × Int), v = .int .i64 (k : Int) ∧ xs[k]? = some x ∧ d x = true ∧ ∀ y ∈ xs.take k, d y = false)) (by intro w hst hLe; exact indexFunc_calls hst.sat xs tail b cap hcap hlen hLe d g hg hd) ?_
  rintro v M3 Lo le4 ⟨rfl, (⟨rfl, hno⟩ | ⟨i0, x0, rfl, hx0, hd0, hall0⟩)⟩
  · refine g_exec 1 [0, 1, 4, 5] [1] [] (fun _ => ⟨[(0, .v (.slice (some ⟨b, 0, none⟩) xs.length cap)), (1, .v (.func (.func g) #[] [].toArray)), (4, .v (.slice none 0 0)), (5, .v (.int .i64 (-1)))], [(1, .cells b (FL chP xs tail) 53)], [], 2⟩) (fun _ => by kernel_rfl) fun _ => ?_
    refine g_end (by kernel_rfl) ?_
    refine n_then ?_
    refine g_seq ?_
    refine g_seq ?_
    refine g_region ?_
    refine g_exec 2 [0, 1, 4, 5, 12] [1] [] (fun _ => ⟨[(0, .v (.slice (some ⟨b, 0, none⟩) xs.length cap)), (1, .v (.func (.func g) #[] [].toArray)), (4, .v (.slice none 0 0)), (5, .v (.int .i64 (-1))), (12, .v (.bool true))], [(1, .cells b (FL chP xs tail) 53)], [], 2⟩) (fun _ => by kernel_rfl) fun _ => ?_
    refine g_end (by kernel_rfl) ?_
    refine n_then ?_
    refine g_cond true (by kernel_rfl) (fun hc => ?_) (fun hc => ?_)
    · refine g_seq ?_
      refine g_region ?_
      refine g_exec 2 [0, 1, 4, 5] [1] [] (fun _ => ⟨[(0, .v (.slice (some ⟨b, 0, none⟩) xs.length cap)), (1, .v (.func (.func g) #[] [].toArray)), (4, .v (.slice (some ⟨b, 0, none⟩) xs.length cap)), (5, .v (.int .i64 (-1)))], [(1, .cells b (FL chP xs tail) 53)], [], 2⟩) (fun _ => by kernel_rfl) fun _ => ?_
      refine g_end (by kernel_rfl) ?_
      refine n_then ?_
      refine g_ret ?_
      refine n_then_ret ?_
      have hcp : xs.filter (fun x => !d x) = xs := List.filter_eq_self.2 (fun y hy => by simp [hno y hy])
      refine n_postL [1] [.cells b (FL chP xs tail) 53] (by rfl) (.slice (some ⟨b, 0, none⟩) xs.length cap) (by kernel_rfl) ⟨tail, ?_, ?_, ?_⟩ <;> rw [hcp]
    · cases hc
  · have hi0 := (List.getElem?_eq_some_iff.1 hx0).1
    refine g_exec 1 [0, 1, 4, 5] [1] [] (fun _ => ⟨[(0, .v (.slice (some ⟨b, 0, none⟩) xs.length cap)), (1, .v (.func (.func g) #[] [].toArray)), (4, .v (.slice none 0 0)), (5, .v (.int .i64 (i0 : Int)))], [(1, .cells b (FL chP xs tail) 53)], [], 2⟩) (fun _ => by kernel_rfl) fun _ => ?_
    refine g_end (by kernel_rfl) ?_
    refine n_then ?_
    refine g_seq ?_
    refine g_seq ?_
    refine g_region ?_
    refine g_exec 2 [0, 1, 4, 5, 12] [1] [] (fun _ => ⟨[(0, .v (.slice (some ⟨b, 0, none⟩) xs.length cap)), (1, .v (.func (.func g) #[] [].toArray)), (4, .v (.slice none 0 0)), (5, .v (.int .i64 (i0 : Int))), (12, .v (.bool ((i0 : Int) == (-1))))], [(1, .cells b (FL chP xs tail) 53)], [], 2⟩) (fun _ => by kernel_rfl) fun _ => ?_
    refine g_end (by kernel_rfl) ?_
    refine n_then ?_
    refine g_cond (((i0 : Int) == (-1))) (by kernel_rfl) (fun hc10 => ?_) (fun hc10 => ?_)
    · exact absurd (eq_of_beq hc10) (by omega)
    · refine g_skip ?_
      refine n_then ?_
      refine g_seq ?_
      refine g_seq ?_
      refine g_region ?_
      refine g_exec 3 [0, 1, 4, 5, 6] [1] [] (fun _ => ⟨[(0, .v (.slice (some ⟨b, 0, none⟩) xs.length cap)), (1, .v (.func (.func g) #[] [].toArray)), (4, .v (.slice none 0 0)), (5, .v (.int .i64 (i0 : Int))), (6, .v (.int .i64 (IntKind.i64.wrap ((i0 : Int) + 1))))], [(1, .cells b (FL chP xs tail) 53)], [], 2⟩) (fun _ => by kernel_rfl) fun _ => ?_
      refine g_end (by kernel_rfl) ?_
      refine n_then ?_
      refine g_block ?_
      refine g_val 6 (v := .int .i64 (IntKind.i64.wrap ((i0 : Int) + 1))) (.int .i64 ((i0 + 1 : Nat) : Int)) (by kernel_rfl) (by rw [wrapN i0 (by omega)]) ?_
      refine g_fin [0, 1, 4, 5, 6] [1] [] ⟨[(0, .v (.slice (some ⟨b, 0, none⟩) xs.length cap)), (1, .v (.func (.func g) #[] [].toArray)), (4, .v (.slice none 0 0)), (5, .v (.int .i64 (i0 : Int))), (6, .v (.int .i64 ((i0 + 1 : Nat) : Int)))], [(1, .cells b (FL chP xs tail) 53)], [], 2⟩ (by kernel_rfl) ?_
      refine g_while (ι := Nat) (fun k M12 s => ∃ (m : Nat) (ys : List (Int × Int)), s = ⟨[(0, .v (.slice (some ⟨b, 0, none⟩) xs.length cap)), (1, .v (.func (.func g) #[] [].toArray)), (4, .v (.slice none 0 0)), (5, .v (.int .i64 (m : Int))), (6, .v (.int .i64 (k : Int)))], [(1, .cells b (FL chP ys tail) 53)], [], 2⟩ ∧ (DI d xs ys k m) ∧ (∀ a u, M3 a = some u → M12 a = some u)) (fun k => xs.length - k) (i0 + 1) ⟨i0, xs, rfl, DI.start hall0 hx0 hd0, (fun _ _ h => h)⟩ ?_
      rintro k M12 _ ⟨m, ys, rfl, hI, le13⟩
      refine g_seq ?_
      refine g_seq ?_
      refine g_region ?_
      refine g_exec 4 [0, 1, 4, 5, 6, 19] [1] [] (fun _ => ⟨[(0, .v (.slice (some ⟨b, 0, none⟩) xs.length cap)), (1, .v (.func (.func g) #[] [].toArray)), (4, .v (.slice none 0 0)), (5, .v (.int .i64 (m : Int))), (6, .v (.int .i64 (k : Int))), (19, .v (.bool (decide ((k : Int) < ((xs.length : Nat) : Int)))))], [(1, .cells b (FL chP ys tail) 53)], [], 2⟩) (fun _ => by kernel_rfl) fun _ => ?_
      refine g_end (by kernel_rfl) ?_
      refine n_then ?_
      refine g_cond (decide ((k : Int) < ((xs.length : Nat) : Int))) (by kernel_rfl) (fun hc15 => ?_) (fun hc15 => ?_)
      · replace hc15 := of_decide_eq_true hc15
        have hI1 := hI.1
        have hI2 := hI.2.1
        have hI3 := hI.2.2.1
        refine g_skip ?_
        refine n_then ?_
        refine g_seq ?_
        refine g_block ?_
        refine g_seq ?_
        refine g_region ?_
        refine g_exec 2 [0, 1, 4, 5, 6, 22, 23] [1] [] (fun _ => ⟨[(0, .v (.slice (some ⟨b, 0, none⟩) xs.length cap)), (1, .v (.func (.func g) #[] [].toArray)), (4, .v (.slice none 0 0)), (5, .v (.int .i64 (m : Int))), (6, .v (.int .i64 (k : Int))), (22, .v (.slice (some ⟨b, 0, none⟩) xs.length cap)), (23, .v (.int .i64 (k : Int)))], [(1, .cells b (FL chP ys tail) 53)], [], 2⟩) (fun _ => by kernel_rfl) fun _ => ?_
        refine g_yld (y_index (dst := some 24) (b := b) (o := 0) (len := xs.length) (kk := .i64) (ii := (k : Int)) (sz := 2) (by kernel_rfl) (by omega) (by omega)) ?_
        obtain ⟨x18, hx18⟩ : ∃ p, (ys)[k]? = some p := ⟨_, List.getElem?_eq_getElem (show k < (ys).length by (try simp only [List.length_set]); omega)⟩
        have oe19 : 0 + k * 2 = k * 2 := by omega
        refine g_yldO 1 (b := b) (t := 53) (cs := FL chP ys tail) (by rfl) (y_loads (dst := some 25) (b := b) (o := 0 + k * 2) (sz := 2) (by kernel_rfl) (cs := [.int .i64 x18.1, .int .i64 x18.2]) rfl (fun j v hj => ov_at (cs := FL chP ys tail) (o := 0 + k * 2 + j) (by rw [oe19]; exact FL_get (enc := chP) (sz := 2) (fun _ => rfl) hx18 j v hj))) ?_
        refine g_exec 2 [0, 1, 4, 5, 6, 7] [1, 2] [] (fun f20 => ⟨[(0, .v (.slice (some ⟨b, 0, none⟩) xs.length cap)), (1, .v (.func (.func g) #[] [].toArray)), (4, .v (.slice none 0 0)), (5, .v (.int .i64 (m : Int))), (6, .v (.int .i64 (k : Int))), (7, .l 2 (f20 4) 0)], [(2, .cells (f20 4) [.int .i64 x18.1, .int .i64 x18.2] 53), (1, .cells b (FL chP ys tail) 53)], [], 3⟩) (fun _ => by kernel_rfl) fun f20 => ?_
        refine g_end (by kernel_rfl) ?_
        refine n_then ?_
        refine g_seq ?_
        refine g_region ?_
        refine g_exec 2 [0, 1, 4, 5, 6, 7, 26, 27] [1, 2] [] (fun _ => ⟨[(0, .v (.slice (some ⟨b, 0, none⟩) xs.length cap)), (1, .v (.func (.func g) #[] [].toArray)), (4, .v (.slice none 0 0)), (5, .v (.int .i64 (m : Int))), (6, .v (.int .i64 (k : Int))), (7, .l 2 (f20 4) 0), (26, .v (.func (.func g) #[] [].toArray)), (27, .v (.agg #[.int .i64 x18.1, .int .i64 x18.2]))], [(2, .cells (f20 4) [.int .i64 x18.1, .int .i64 x18.2] 53), (1, .cells b (FL chP ys tail) 53)], [], 3⟩) (fun _ => by kernel_rfl) fun _ => ?_
        refine g_call (dst := some 28) (g := g) (args := ([.agg #[.int .i64 x18.1, .int .i64 x18.2]] ++ [])) (by kernel_rfl) hg (fun v _ => v = .bool (d x18)) (by intro w hst; exact hd _ _ hst.sat x18) ?_
        rintro _ M22 le23 rfl
        refine g_exec 1 [0, 1, 4, 5, 6, 7, 29] [1, 2] [] (fun _ => ⟨[(0, .v (.slice (some ⟨b, 0, none⟩) xs.length cap)), (1, .v (.func (.func g) #[] [].toArray)), (4, .v (.slice none 0 0)), (5, .v (.int .i64 (m : Int))), (6, .v (.int .i64 (k : Int))), (7, .l 2 (f20 4) 0), (29, .v (.bool (!(d x18))))], [(2, .cells (f20 4) [.int .i64 x18.1, .int .i64 x18.2] 53), (1, .cells b (FL chP ys tail) 53)], [], 3⟩) (fun _ => by kernel_rfl) fun _ => ?_
        refine g_end (by kernel_rfl) ?_
        refine n_then ?_
        refine g_cond (!(d x18)) (by kernel_rfl) (fun hc25 => ?_) (fun hc25 => ?_)
        · replace hc25 := bnot_true hc25
          refine g_seq ?_
          refine g_region ?_
          refine g_exec 3 [0, 1, 4, 5, 6, 30, 31, 32] [1] [] (fun _ => ⟨[(0, .v (.slice (some ⟨b, 0, none⟩) xs.length cap)), (1, .v (.func (.func g) #[] [].toArray)), (4, .v (.slice none 0 0)), (5, .v (.int .i64 (m : Int))), (6, .v (.int .i64 (k : Int))), (30, .v (.slice (some ⟨b, 0, none⟩) xs.length cap)), (31, .v (.int .i64 (m : Int))), (32, .v (.agg #[.int .i64 x18.1, .int .i64 x18.2]))], [(1, .cells b (FL chP ys tail) 53)], [], 2⟩) (fun _ => by kernel_rfl) fun _ => ?_
          refine g_yld (y_index (dst := some 33) (b := b) (o := 0) (len := xs.length) (kk := .i64) (ii := (m : Int)) (sz := 2) (by kernel_rfl) (by omega) (by omega)) ?_
          have oe28 : 0 + m * 2 = m * 2 := by omega
          refine g_storeA 1 (b := b) (o := 0 + m * 2) (sz := 2) (t := 53) (v := .agg #[.int .i64 x18.1, .int .i64 x18.2]) (cs := FL chP ys tail) (FL chP ((ys).set m x18) tail) (by kernel_rfl) (by rfl) [.int .i64 x18.1, .int .i64 x18.2] rfl rfl rfl (by rw [FL_len (enc := chP) (sz := 2) (fun _ => rfl)]; (try simp only [List.length_set]); omega) (by rw [oe28]; exact FL_set (enc := chP) (sz := 2) (fun _ => rfl) _ _ _ (by (try simp only [List.length_set]); omega) x18) ?_
          refine g_end (by kernel_rfl) ?_
          refine n_then ?_
          refine g_region ?_
          refine g_exec 3 [0, 1, 4, 5, 6] [1] [] (fun _ => ⟨[(0, .v (.slice (some ⟨b, 0, none⟩) xs.length cap)), (1, .v (.func (.func g) #[] [].toArray)), (4, .v (.slice none 0 0)), (5, .v (.int .i64 (IntKind.i64.wrap ((m : Int) + 1)))), (6, .v (.int .i64 (k : Int)))], [(1, .cells b (FL chP ((ys).set m x18) tail) 53)], [], 2⟩) (fun _ => by kernel_rfl) fun _ => ?_
          refine g_end (by kernel_rfl) ?_
          refine n_block ?_
          refine n_then ?_
          refine g_region ?_
          refine g_exec 3 [0, 1, 4, 5, 6] [1] [] (fun _ => ⟨[(0, .v (.slice (some ⟨b, 0, none⟩) xs.length cap)), (1, .v (.func (.func g) #[] [].toArray)), (4, .v (.slice none 0 0)), (5, .v (.int .i64 (IntKind.i64.wrap ((m : Int) + 1)))), (6, .v (.int .i64 (IntKind.i64.wrap ((k : Int) + 1))))], [(1, .cells b (FL chP ((ys).set m x18) tail) 53)], [], 2⟩) (fun _ => by kernel_rfl) fun _ => ?_
          refine g_end (by kernel_rfl) ?_
          refine n_then ?_
          refine g_val 5 (v := .int .i64 (IntKind.i64.wrap ((m : Int) + 1))) (.int .i64 ((m + 1 : Nat) : Int)) (by kernel_rfl) (by rw [wrapN m (by omega)]) ?_
          refine g_val 6 (v := .int .i64 (IntKind.i64.wrap ((k : Int) + 1))) (.int .i64 ((k + 1 : Nat) : Int)) (by kernel_rfl) (by rw [wrapN k (by omega)]) ?_
          refine g_fin [0, 1, 4, 5, 6] [1] [] ⟨[(0, .v (.slice (some ⟨b, 0, none⟩) xs.length cap)), (1, .v (.func (.func g) #[] [].toArray)), (4, .v (.slice none 0 0)), (5, .v (.int .i64 ((m + 1 : Nat) : Int))), (6, .v (.int .i64 ((k + 1 : Nat) : Int)))], [(1, .cells b (FL chP ((ys).set m x18) tail) 53)], [], 2⟩ (by kernel_rfl) ?_
          exact g_again (k + 1) ⟨(m + 1), _, rfl, DI.keep hI hx18 hc25, (fun _ _ h => (le23 _ _ (le13 _ _ h)))⟩ (by omega)
        · replace hc25 := bnot_false hc25
          refine g_skip ?_
          refine n_block ?_
          refine n_then ?_
          refine g_region ?_
          refine g_exec 3 [0, 1, 4, 5, 6] [1] [] (fun _ => ⟨[(0, .v (.slice (some ⟨b, 0, none⟩) xs.length cap)), (1, .v (.func (.func g) #[] [].toArray)), (4, .v (.slice none 0 0)), (5, .v (.int .i64 (m : Int))), (6, .v (.int .i64 (IntKind.i64.wrap ((k : Int) + 1))))], [(1, .cells b (FL chP ys tail) 53)], [], 2⟩) (fun _ => by kernel_rfl) fun _ => ?_
          refine g_end (by kernel_rfl) ?_
          refine n_then ?_
          refine g_val 6 (v := .int .i64 (IntKind.i64.wrap ((k : Int) + 1))) (.int .i64 ((k + 1 : Nat) : Int)) (by kernel_rfl) (by rw [wrapN k (by omega)]) ?_
          refine g_fin [0, 1, 4, 5, 6] [1] [] ⟨[(0, .v (.slice (some ⟨b, 0, none⟩) xs.length cap)), (1, .v (.func (.func g) #[] [].toArray)), (4, .v (.slice none 0 0)), (5, .v (.int .i64 (m : Int))), (6, .v (.int .i64 ((k + 1 : Nat) : Int)))], [(1, .cells b (FL chP ys tail) 53)], [], 2⟩ (by kernel_rfl) ?_
          exact g_again (k + 1) ⟨m, _, rfl, DI.del hI hx18 hc25, (fun _ _ h => (le23 _ _ (le13 _ _ h)))⟩ (by omega)
      · replace hc15 := of_decide_eq_false hc15
        have hI1 := hI.1
        have hI2 := hI.2.1
        have hI3 := hI.2.2.1
        refine g_exit ?_
        refine n_then_exit ?_
        refine n_then_exit ?_
        refine n_block_exit ?_
        refine n_then ?_
        refine g_seq ?_
        refine g_region ?_
        refine g_exec 2 [0, 4, 5, 36, 37] [1] [] (fun _ => ⟨[(0, .v (.slice (some ⟨b, 0, none⟩) xs.length cap)), (4, .v (.slice none 0 0)), (5, .v (.int .i64 (m : Int))), (36, .v (.slice (some ⟨b, 0, none⟩) xs.length cap)), (37, .v (.int .i64 (m : Int)))], [(1, .cells b (FL chP ys tail) 53)], [], 2⟩) (fun _ => by kernel_rfl) fun _ => ?_
        refine g_sliceA (dst := some 38) (A := some ⟨b, 0, none⟩) (len := xs.length) (cap := cap) (sz := 2) m xs.length (.slice (some ⟨b, m * 2, none⟩) (xs.length - m) (cap - m)) (by kernel_rfl) (.inl rfl) (.inr ⟨rfl, rfl⟩) (by omega) (by omega) (by intros; omega) (sliced_of (by omega)) ?_
        obtain ⟨tl, htl⟩ : ∃ t, t = zerosL [.int .i64 0, .int .i64 0] (xs.length - m) ++ (FL chP ys tail).drop (m * 2 + (zerosL [.int .i64 0, .int .i64 0] (xs.length - m)).length) := ⟨_, rfl⟩
        refine g_clearA 1 (b := b) (o := m * 2) (n := xs.length - m) (t := 53) (cs := FL chP ys tail) (zc := [.int .i64 0, .int .i64 0]) (FL chP (ys.take m) tl) (by kernel_rfl) (by rfl) (by rw [FL_len (enc := chP) (sz := 2) (fun _ => rfl)]; show m * 2 + (xs.length - m) * 2 ≤ ys.length * 2 + tail.length; omega) (by rw [htl]; exact FL_clear (enc := chP) (sz := 2) (fun _ => rfl) _ _ _ _ (by omega)) ?_
        refine g_end (by kernel_rfl) ?_
        refine n_then ?_
        refine g_seq ?_
        refine g_region ?_
        refine g_exec 2 [4, 39, 40] [1] [] (fun _ => ⟨[(4, .v (.slice none 0 0)), (39, .v (.slice (some ⟨b, 0, none⟩) xs.length cap)), (40, .v (.int .i64 (m : Int)))], [(1, .cells b (FL chP (ys.take m) tl) 53)], [], 2⟩) (fun _ => by kernel_rfl) fun _ => ?_
        refine g_sliceA (dst := some 41) (A := some ⟨b, 0, none⟩) (len := xs.length) (cap := cap) (sz := 2) 0 m (.slice (some ⟨b, 0, none⟩) m cap) (by kernel_rfl) (.inr ⟨rfl, rfl⟩) (.inl rfl) (by omega) (by omega) (by intros; omega) (sliced_0) ?_
        refine g_exec 1 [4] [1] [] (fun _ => ⟨[(4, .v (.slice (some ⟨b, 0, none⟩) m cap))], [(1, .cells b (FL chP (ys.take m) tl) 53)], [], 2⟩) (fun _ => by kernel_rfl) fun _ => ?_
        refine g_end (by kernel_rfl) ?_
        refine n_then ?_
        refine g_ret ?_
        have hcp := DI.done hI (by omega)
        have hlen2 : (ys.take m).length = m := by rw [List.length_take]; omega
        have htl2 : m * 2 + tl.length = xs.length * 2 + tail.length := by rw [htl, List.length_append, List.length_drop, FL_len (enc := chP) (sz := 2) (fun _ => rfl), zerosL_length]; simp only [List.length_cons, List.length_nil]; omega
        refine n_postL [1] [.cells b (FL chP (ys.take m) tl) 53] (by rfl) (.slice (some ⟨b, 0, none⟩) m cap) (by kernel_rfl) ⟨tl, ?_, ?_, ?_⟩ <;> rw [← hcp]
        · rw [hlen2]
        · rw [hlen2]; exact htl2
end Go.Ch
