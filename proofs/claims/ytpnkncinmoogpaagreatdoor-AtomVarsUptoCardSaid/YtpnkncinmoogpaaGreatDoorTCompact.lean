import Derived.Test.YtpnkncinmoogpaaGreatDoorProg
import Derived.Test.YtpnkncinmoogpaaGreatDoorChAtomP
set_option linter.unusedVariables false
namespace Go.Ch
open Go Go.Eng Go.Proofs

theorem compactA_calls {M : Mem} {w : World} (hM : Sat M w) (xs : List Int) (tail : List Value) (b cap : Nat) (hcap : xs.length ≤ cap) (hlen : xs.length ≤ 1099511627776) (hLent : Lent [.cells b (FL chI xs tail) 24] M w) : CtL Tryz.prog 54 [.slice (some ⟨b, 0, none⟩) xs.length cap] [.cells b (FL chI xs tail) 24] w M (fun v M' Lo => ∃ tl, v = .slice (some ⟨b, 0, none⟩) (cpt xs).length cap ∧ Lo = [.cells b (FL chI (cpt xs) tl) 24] ∧ (cpt xs).length * 1 + tl.length = xs.length * 1 + tail.length) := by
  refine enterL (n := 61) Tryz.func54 rfl rfl _ (by kernel_rfl) hM hLent ?_
  refine g_seq ?_
  refine g_region ?_
  refine g_exec 1 [0, 2] [0] [] (fun _ => ⟨[(0, .v (.slice (some ⟨b, 0, none⟩) xs.length cap)), (2, .v (.slice none 0 0))], [(0, .cells b (FL chI xs tail) 24)], [], 1⟩) (fun _ => by kernel_rfl) fun _ => ?_
  refine g_end (by kernel_rfl) ?_
  refine n_then ?_
  refine g_seq ?_
  refine g_seq ?_
  refine g_region ?_
  refine g_exec 3 [0, 2, 8] [0] [] (fun _ => ⟨[(0, .v (.slice (some ⟨b, 0, none⟩) xs.length cap)), (2, .v (.slice none 0 0)), (8, .v (.bool (decide (((xs.length : Nat) : Int) < 2))))], [(0, .cells b (FL chI xs tail) 24)], [], 1⟩) (fun _ => by kernel_rfl) fun _ => ?_
  refine g_end (by kernel_rfl) ?_
  refine n_then ?_
  refine g_cond (decide (((xs.length : Nat) : Int) < 2)) (by kernel_rfl) (fun hc3 => ?_) (fun hc3 => ?_)
  · replace hc3 := of_decide_eq_true hc3
    refine g_seq ?_
    refine g_region ?_
    refine g_exec 2 [0, 2] [0] [] (fun _ => ⟨[(0, .v (.slice (some ⟨b, 0, none⟩) xs.length cap)), (2, .v (.slice (some ⟨b, 0, none⟩) xs.length cap))], [(0, .cells b (FL chI xs tail) 24)], [], 1⟩) (fun _ => by kernel_rfl) fun _ => ?_
    refine g_end (by kernel_rfl) ?_
    refine n_then ?_
    refine g_ret ?_
    refine n_then_ret ?_
    have hcp : cpt xs = xs := cpt_short (by omega)
    refine n_postL [0] [.cells b (FL chI xs tail) 24] (by rfl) (.slice (some ⟨b, 0, none⟩) xs.length cap) (by kernel_rfl) ⟨tail, ?_, ?_, ?_⟩ <;> rw [hcp]
  · replace hc3 := of_decide_eq_false hc3
    refine g_skip ?_
    refine n_then ?_
    refine g_seq ?_
    refine g_seq ?_
    refine g_region ?_
    refine g_exec 1 [0, 2, 3] [0] [] (fun _ => ⟨[(0, .v (.slice (some ⟨b, 0, none⟩) xs.length cap)), (2, .v (.slice none 0 0)), (3, .v (.int .i64 1))], [(0, .cells b (FL chI xs tail) 24)], [], 1⟩) (fun _ => by kernel_rfl) fun _ => ?_
    refine g_end (by kernel_rfl) ?_
    refine n_then ?_
    refine g_block ?_
    refine g_fin [0, 2, 3] [0] [] ⟨[(0, .v (.slice (some ⟨b, 0, none⟩) xs.length cap)), (2, .v (.slice none 0 0)), (3, .v (.int .i64 1))], [(0, .cells b (FL chI xs tail) 24)], [], 1⟩ (by kernel_rfl) ?_
    refine g_while (ι := Nat) (fun k M6 s => s = ⟨[(0, .v (.slice (some ⟨b, 0, none⟩) xs.length cap)), (2, .v (.slice none 0 0)), (3, .v (.int .i64 (k : Int)))], [(0, .cells b (FL chI xs tail) 24)], [], 1⟩ ∧ (1 ≤ k ∧ k ≤ xs.length ∧ cpt (xs.take k) = xs.take k) ∧ (∀ a u, M a = some u → M6 a = some u)) (fun k => xs.length - k) 1 ⟨rfl, ⟨Nat.le_refl _, by omega, cpt_one xs⟩, (fun _ _ h => h)⟩ ?_
    rintro k M6 _ ⟨rfl, ⟨hk1, hk, hc⟩, le7⟩
    refine g_seq ?_
    refine g_seq ?_
    refine g_region ?_
    refine g_exec 4 [0, 2, 3, 13] [0] [] (fun _ => ⟨[(0, .v (.slice (some ⟨b, 0, none⟩) xs.length cap)), (2, .v (.slice none 0 0)), (3, .v (.int .i64 (k : Int))), (13, .v (.bool (decide ((k : Int) < ((xs.length : Nat) : Int)))))], [(0, .cells b (FL chI xs tail) 24)], [], 1⟩) (fun _ => by kernel_rfl) fun _ => ?_
    refine g_end (by kernel_rfl) ?_
    refine n_then ?_
    refine g_cond (decide ((k : Int) < ((xs.length : Nat) : Int))) (by kernel_rfl) (fun hc9 => ?_) (fun hc9 => ?_)
    · replace hc9 := of_decide_eq_true hc9
      refine g_skip ?_
      refine n_then ?_
      refine g_seq ?_
      refine g_block ?_
      refine g_seq ?_
      refine d_begin (by kernel_rfl) [0] [] 10 (by kernel_rfl) ?_
      refine dx_exec (fuel := 5) [0] [0, 1, 4, 5, 6] [0, 2, 3, 16, 17, 20, 22] [0] [] [true, true, false, false, true, true, true, false, false, false] ⟨[(0, .v (.slice (some ⟨b, 0, none⟩) xs.length cap)), (2, .v (.slice none 0 0)), (3, .v (.int .i64 (k : Int))), (16, .v (.slice (some ⟨b, 0, none⟩) xs.length cap)), (17, .v (.int .i64 (k : Int))), (20, .v (.slice (some ⟨b, 0, none⟩) xs.length cap)), (22, .v (.int .i64 (IntKind.i64.wrap ((k : Int) - 1))))], [(0, .cells b (FL chI xs tail) 24)], [], 1⟩ (by kernel_rfl) (fun _ _ h => h) (by kernel_rfl) (by kernel_rfl) ?_ rfl
      refine dx_yld (fuel := 4) (i := 2) [0] [true, true, true, false, true, true, true, false, false, false] (by kernel_rfl) (fun _ _ h => h) (by kernel_rfl) (y_index (dst := some 18) (b := b) (o := 0) (len := xs.length) (kk := .i64) (ii := (k : Int)) (sz := 1) (by kernel_rfl) (by omega) (by omega)) (by kernel_rfl) (by kernel_rfl) ?_ rfl
      obtain ⟨x10, hx10⟩ : ∃ p, (xs)[k]? = some p := ⟨_, List.getElem?_eq_getElem (show k < (xs).length by (try simp only [List.length_set]); omega)⟩
      have hzx10 := hx10
      have oe11 : 0 + k * 1 = k * 1 := by omega
      refine dx_yldO (fuel := 3) (i := 3) [0] 0 (b := b) (t := 24) (cs := FL chI xs tail) (by rfl) [true, true, true, true, true, true, true, false, false, false] (by kernel_rfl) (fun _ _ h => h) (by kernel_rfl) (y_load1 (dst := some 19) (ad := ⟨b, 0 + k * 1, none⟩) (sz := 1) (by kernel_rfl) (v := .int .i64 x10) (ov_at (cs := FL chI xs tail) (o := 0 + k * 1) (by rw [oe11]; exact FL_get (enc := chI) (sz := 1) (fun _ => rfl) hx10 0 _ rfl))) (by kernel_rfl) (by kernel_rfl) ?_ rfl
      have hw12 := wrapP k (by omega) (by omega)
      refine dx_yld (fuel := 2) (i := 7) [0] [true, true, true, true, true, true, true, true, false, false] (by kernel_rfl) (fun _ _ h => h) (by kernel_rfl) (y_index (dst := some 23) (b := b) (o := 0) (len := xs.length) (kk := .i64) (ii := (IntKind.i64.wrap ((k : Int) - 1))) (sz := 1) (by kernel_rfl) (by omega) (by omega)) (by kernel_rfl) (by kernel_rfl) ?_ rfl
      obtain ⟨x13, hx13⟩ : ∃ p, (xs)[(IntKind.i64.wrap ((k : Int) - 1)).toNat]? = some p := ⟨_, List.getElem?_eq_getElem (show (IntKind.i64.wrap ((k : Int) - 1)).toNat < (xs).length by (try simp only [List.length_set]); omega)⟩
      have hzx13 := hx13
      have oe14 : 0 + ((IntKind.i64.wrap ((k : Int) - 1)).toNat) * 1 = ((IntKind.i64.wrap ((k : Int) - 1)).toNat) * 1 := by omega
      refine dx_yldO (fuel := 1) (i := 8) [0] 0 (b := b) (t := 24) (cs := FL chI xs tail) (by rfl) [true, true, true, true, true, true, true, true, true, false] (by kernel_rfl) (fun _ _ h => h) (by kernel_rfl) (y_load1 (dst := some 24) (ad := ⟨b, 0 + ((IntKind.i64.wrap ((k : Int) - 1)).toNat) * 1, none⟩) (sz := 1) (by kernel_rfl) (v := .int .i64 x13) (ov_at (cs := FL chI xs tail) (o := 0 + ((IntKind.i64.wrap ((k : Int) - 1)).toNat) * 1) (by rw [oe14]; exact FL_get (enc := chI) (sz := 1) (fun _ => rfl) hx13 0 _ rfl))) (by kernel_rfl) (by kernel_rfl) ?_ rfl
      refine dx_exec (fuel := 0) [0] [9] [0, 2, 3, 25] [0] [] [true, true, true, true, true, true, true, true, true, true] ⟨[(0, .v (.slice (some ⟨b, 0, none⟩) xs.length cap)), (2, .v (.slice none 0 0)), (3, .v (.int .i64 (k : Int))), (25, .v (.bool (x10 == x13)))], [(0, .cells b (FL chI xs tail) 24)], [], 1⟩ (by kernel_rfl) (fun _ _ h => h) (by kernel_rfl) (by kernel_rfl) ?_ rfl
      refine d_end (by kernel_rfl) ?_
      refine n_then ?_
      refine g_cond ((x10 == x13)) (by kernel_rfl) (fun hc15 => ?_) (fun hc15 => ?_)
      · replace hc15 := beqI_t hc15
        refine g_seq ?_
        refine g_region ?_
        refine g_exec 2 [0, 2, 3, 26, 27] [0] [] (fun _ => ⟨[(0, .v (.slice (some ⟨b, 0, none⟩) xs.length cap)), (2, .v (.slice none 0 0)), (3, .v (.int .i64 (k : Int))), (26, .v (.slice (some ⟨b, 0, none⟩) xs.length cap)), (27, .v (.int .i64 (k : Int)))], [(0, .cells b (FL chI xs tail) 24)], [], 1⟩) (fun _ => by kernel_rfl) fun _ => ?_
        refine g_sliceA (dst := some 28) (A := some ⟨b, 0, none⟩) (len := xs.length) (cap := cap) (sz := 1) k xs.length (.slice (some ⟨b, k * 1, none⟩) (xs.length - k) (cap - k)) (by kernel_rfl) (.inl rfl) (.inr ⟨rfl, rfl⟩) (by omega) (by omega) (by intros; omega) (sliced_of (by omega)) ?_
        refine g_exec 1 [0, 2, 3, 4] [0] [] (fun _ => ⟨[(0, .v (.slice (some ⟨b, 0, none⟩) xs.length cap)), (2, .v (.slice none 0 0)), (3, .v (.int .i64 (k : Int))), (4, .v (.slice (some ⟨b, k * 1, none⟩) (xs.length - k) (cap - k)))], [(0, .cells b (FL chI xs tail) 24)], [], 1⟩) (fun _ => by kernel_rfl) fun _ => ?_
        refine g_end (by kernel_rfl) ?_
        refine n_then ?_
        refine g_seq ?_
        refine g_seq ?_
        refine g_region ?_
        refine g_exec 1 [0, 2, 3, 4, 5] [0] [] (fun _ => ⟨[(0, .v (.slice (some ⟨b, 0, none⟩) xs.length cap)), (2, .v (.slice none 0 0)), (3, .v (.int .i64 (k : Int))), (4, .v (.slice (some ⟨b, k * 1, none⟩) (xs.length - k) (cap - k))), (5, .v (.int .i64 1))], [(0, .cells b (FL chI xs tail) 24)], [], 1⟩) (fun _ => by kernel_rfl) fun _ => ?_
        refine g_end (by kernel_rfl) ?_
        refine n_then ?_
        refine g_block ?_
        have hst1 := CI.start (by omega) hc (a := x10) (by rw [hc15, ← hzx13]; congr 1; omega) hzx10
        refine g_fin [0, 2, 3, 4, 5] [0] [] ⟨[(0, .v (.slice (some ⟨b, 0, none⟩) xs.length cap)), (2, .v (.slice none 0 0)), (3, .v (.int .i64 (k : Int))), (4, .v (.slice (some ⟨b, k * 1, none⟩) (xs.length - k) (cap - k))), (5, .v (.int .i64 1))], [(0, .cells b (FL chI xs tail) 24)], [], 1⟩ (by kernel_rfl) ?_
        refine g_while (ι := Nat) (fun q M19 s => ∃ (m : Nat) (ys : List Int), s = ⟨[(0, .v (.slice (some ⟨b, 0, none⟩) xs.length cap)), (2, .v (.slice none 0 0)), (3, .v (.int .i64 (m : Int))), (4, .v (.slice (some ⟨b, k * 1, none⟩) (xs.length - k) (cap - k))), (5, .v (.int .i64 (q : Int)))], [(0, .cells b (FL chI ys tail) 24)], [], 1⟩ ∧ (1 ≤ q ∧ CI xs ys (k + q) m) ∧ (∀ a u, M6 a = some u → M19 a = some u)) (fun q => xs.length - k - q) 1 ⟨k, xs, rfl, ⟨Nat.le_refl _, hst1⟩, (fun _ _ h => h)⟩ ?_
        rintro q M19 _ ⟨m, ys, rfl, ⟨hq1, hI⟩, le20⟩
        refine g_seq ?_
        refine g_seq ?_
        refine g_region ?_
        refine g_exec 4 [0, 2, 3, 4, 5, 32] [0] [] (fun _ => ⟨[(0, .v (.slice (some ⟨b, 0, none⟩) xs.length cap)), (2, .v (.slice none 0 0)), (3, .v (.int .i64 (m : Int))), (4, .v (.slice (some ⟨b, k * 1, none⟩) (xs.length - k) (cap - k))), (5, .v (.int .i64 (q : Int))), (32, .v (.bool (decide ((q : Int) < (((xs.length - k) : Nat) : Int)))))], [(0, .cells b (FL chI ys tail) 24)], [], 1⟩) (fun _ => by kernel_rfl) fun _ => ?_
        refine g_end (by kernel_rfl) ?_
        refine n_then ?_
        refine g_cond (decide ((q : Int) < (((xs.length - k) : Nat) : Int))) (by kernel_rfl) (fun hc22 => ?_) (fun hc22 => ?_)
        · replace hc22 := of_decide_eq_true hc22
          have hI1 := hI.1
          have hI2 := hI.2.1
          have hI3 := hI.2.2.1
          refine g_skip ?_
          refine n_then ?_
          refine g_seq ?_
          refine g_block ?_
          refine g_seq ?_
          refine d_begin (by kernel_rfl) [0] [] 10 (by kernel_rfl) ?_
          refine dx_exec (fuel := 5) [0] [0, 1, 4, 5, 6] [0, 2, 3, 4, 5, 35, 36, 39, 41] [0] [] [true, true, false, false, true, true, true, false, false, false] ⟨[(0, .v (.slice (some ⟨b, 0, none⟩) xs.length cap)), (2, .v (.slice none 0 0)), (3, .v (.int .i64 (m : Int))), (4, .v (.slice (some ⟨b, k * 1, none⟩) (xs.length - k) (cap - k))), (5, .v (.int .i64 (q : Int))), (35, .v (.slice (some ⟨b, k * 1, none⟩) (xs.length - k) (cap - k))), (36, .v (.int .i64 (q : Int))), (39, .v (.slice (some ⟨b, k * 1, none⟩) (xs.length - k) (cap - k))), (41, .v (.int .i64 (IntKind.i64.wrap ((q : Int) - 1))))], [(0, .cells b (FL chI ys tail) 24)], [], 1⟩ (by kernel_rfl) (fun _ _ h => h) (by kernel_rfl) (by kernel_rfl) ?_ rfl
          refine dx_yld (fuel := 4) (i := 2) [0] [true, true, true, false, true, true, true, false, false, false] (by kernel_rfl) (fun _ _ h => h) (by kernel_rfl) (y_index (dst := some 37) (b := b) (o := k * 1) (len := (xs.length - k)) (kk := .i64) (ii := (q : Int)) (sz := 1) (by kernel_rfl) (by omega) (by omega)) (by kernel_rfl) (by kernel_rfl) ?_ rfl
          obtain ⟨x23, hx23⟩ : ∃ p, (ys)[(k + q)]? = some p := ⟨_, List.getElem?_eq_getElem (show (k + q) < (ys).length by (try simp only [List.length_set]); omega)⟩
          have hzx23 := hx23
          have oe24 : k * 1 + q * 1 = (k + q) * 1 := by omega
          refine dx_yldO (fuel := 3) (i := 3) [0] 0 (b := b) (t := 24) (cs := FL chI ys tail) (by rfl) [true, true, true, true, true, true, true, false, false, false] (by kernel_rfl) (fun _ _ h => h) (by kernel_rfl) (y_load1 (dst := some 38) (ad := ⟨b, k * 1 + q * 1, none⟩) (sz := 1) (by kernel_rfl) (v := .int .i64 x23) (ov_at (cs := FL chI ys tail) (o := k * 1 + q * 1) (by rw [oe24]; exact FL_get (enc := chI) (sz := 1) (fun _ => rfl) hx23 0 _ rfl))) (by kernel_rfl) (by kernel_rfl) ?_ rfl
          have hw25 := wrapP q (by omega) (by omega)
          refine dx_yld (fuel := 2) (i := 7) [0] [true, true, true, true, true, true, true, true, false, false] (by kernel_rfl) (fun _ _ h => h) (by kernel_rfl) (y_index (dst := some 42) (b := b) (o := k * 1) (len := (xs.length - k)) (kk := .i64) (ii := (IntKind.i64.wrap ((q : Int) - 1))) (sz := 1) (by kernel_rfl) (by omega) (by omega)) (by kernel_rfl) (by kernel_rfl) ?_ rfl
          obtain ⟨x26, hx26⟩ : ∃ p, (ys)[(k + (IntKind.i64.wrap ((q : Int) - 1)).toNat)]? = some p := ⟨_, List.getElem?_eq_getElem (show (k + (IntKind.i64.wrap ((q : Int) - 1)).toNat) < (ys).length by (try simp only [List.length_set]); omega)⟩
          have hzx26 := hx26
          have oe27 : k * 1 + ((IntKind.i64.wrap ((q : Int) - 1)).toNat) * 1 = (k + (IntKind.i64.wrap ((q : Int) - 1)).toNat) * 1 := by omega
          refine dx_yldO (fuel := 1) (i := 8) [0] 0 (b := b) (t := 24) (cs := FL chI ys tail) (by rfl) [true, true, true, true, true, true, true, true, true, false] (by kernel_rfl) (fun _ _ h => h) (by kernel_rfl) (y_load1 (dst := some 43) (ad := ⟨b, k * 1 + ((IntKind.i64.wrap ((q : Int) - 1)).toNat) * 1, none⟩) (sz := 1) (by kernel_rfl) (v := .int .i64 x26) (ov_at (cs := FL chI ys tail) (o := k * 1 + ((IntKind.i64.wrap ((q : Int) - 1)).toNat) * 1) (by rw [oe27]; exact FL_get (enc := chI) (sz := 1) (fun _ => rfl) hx26 0 _ rfl))) (by kernel_rfl) (by kernel_rfl) ?_ rfl
          refine dx_exec (fuel := 0) [0] [9] [0, 2, 3, 4, 5, 44] [0] [] [true, true, true, true, true, true, true, true, true, true] ⟨[(0, .v (.slice (some ⟨b, 0, none⟩) xs.length cap)), (2, .v (.slice none 0 0)), (3, .v (.int .i64 (m : Int))), (4, .v (.slice (some ⟨b, k * 1, none⟩) (xs.length - k) (cap - k))), (5, .v (.int .i64 (q : Int))), (44, .v (.bool (x23 != x26)))], [(0, .cells b (FL chI ys tail) 24)], [], 1⟩ (by kernel_rfl) (fun _ _ h => h) (by kernel_rfl) (by kernel_rfl) ?_ rfl
          refine d_end (by kernel_rfl) ?_
          refine n_then ?_
          refine g_cond ((x23 != x26)) (by kernel_rfl) (fun hc28 => ?_) (fun hc28 => ?_)
          · replace hc28 := bnot_true hc28
            replace hc28 := beqI_f hc28
            refine g_seq ?_
            refine g_region ?_
            refine g_exec 4 [0, 2, 3, 4, 5, 45, 46, 47, 48] [0] [] (fun _ => ⟨[(0, .v (.slice (some ⟨b, 0, none⟩) xs.length cap)), (2, .v (.slice none 0 0)), (3, .v (.int .i64 (m : Int))), (4, .v (.slice (some ⟨b, k * 1, none⟩) (xs.length - k) (cap - k))), (5, .v (.int .i64 (q : Int))), (45, .v (.slice (some ⟨b, 0, none⟩) xs.length cap)), (46, .v (.int .i64 (m : Int))), (47, .v (.slice (some ⟨b, k * 1, none⟩) (xs.length - k) (cap - k))), (48, .v (.int .i64 (q : Int)))], [(0, .cells b (FL chI ys tail) 24)], [], 1⟩) (fun _ => by kernel_rfl) fun _ => ?_
            refine g_yld (y_index (dst := some 49) (b := b) (o := k * 1) (len := (xs.length - k)) (kk := .i64) (ii := (q : Int)) (sz := 1) (by kernel_rfl) (by omega) (by omega)) ?_
            obtain ⟨x31, hx31⟩ : ∃ p, (ys)[(k + q)]? = some p := ⟨_, List.getElem?_eq_getElem (show (k + q) < (ys).length by (try simp only [List.length_set]); omega)⟩
            have hzx31 := hx31
            have hne3 : x26 ≠ x31 := fun e => hc28 (by rw [show x23 = x31 from Option.some.inj (hzx23.symm.trans hzx31), ← e])
            have oe32 : k * 1 + q * 1 = (k + q) * 1 := by omega
            refine g_yldO 0 (b := b) (t := 24) (cs := FL chI ys tail) (by rfl) (y_load1 (dst := some 50) (ad := ⟨b, k * 1 + q * 1, none⟩) (sz := 1) (by kernel_rfl) (v := .int .i64 x31) (ov_at (cs := FL chI ys tail) (o := k * 1 + q * 1) (by rw [oe32]; exact FL_get (enc := chI) (sz := 1) (fun _ => rfl) hx31 0 _ rfl))) ?_
            refine g_yld (y_index (dst := some 51) (b := b) (o := 0) (len := xs.length) (kk := .i64) (ii := (m : Int)) (sz := 1) (by kernel_rfl) (by omega) (by omega)) ?_
            have oe35 : 0 + m * 1 = m * 1 := by omega
            refine g_storeA 0 (b := b) (o := 0 + m * 1) (sz := 1) (t := 24) (v := .int .i64 x31) (cs := FL chI ys tail) (FL chI ((ys).set m x31) tail) (by kernel_rfl) (by rfl) [.int .i64 x31] rfl rfl rfl (by rw [FL_len (enc := chI) (sz := 1) (fun _ => rfl)]; (try simp only [List.length_set]); omega) (by rw [oe35]; exact FL_set (enc := chI) (sz := 1) (fun _ => rfl) _ _ _ (by (try simp only [List.length_set]); omega) x31) ?_
            refine g_end (by kernel_rfl) ?_
            refine n_then ?_
            refine g_region ?_
            refine g_exec 3 [0, 2, 3, 4, 5] [0] [] (fun _ => ⟨[(0, .v (.slice (some ⟨b, 0, none⟩) xs.length cap)), (2, .v (.slice none 0 0)), (3, .v (.int .i64 (IntKind.i64.wrap ((m : Int) + 1)))), (4, .v (.slice (some ⟨b, k * 1, none⟩) (xs.length - k) (cap - k))), (5, .v (.int .i64 (q : Int)))], [(0, .cells b (FL chI ((ys).set m x31) tail) 24)], [], 1⟩) (fun _ => by kernel_rfl) fun _ => ?_
            refine g_end (by kernel_rfl) ?_
            refine n_block ?_
            refine n_then ?_
            refine g_region ?_
            refine g_exec 3 [0, 2, 3, 4, 5] [0] [] (fun _ => ⟨[(0, .v (.slice (some ⟨b, 0, none⟩) xs.length cap)), (2, .v (.slice none 0 0)), (3, .v (.int .i64 (IntKind.i64.wrap ((m : Int) + 1)))), (4, .v (.slice (some ⟨b, k * 1, none⟩) (xs.length - k) (cap - k))), (5, .v (.int .i64 (IntKind.i64.wrap ((q : Int) + 1))))], [(0, .cells b (FL chI ((ys).set m x31) tail) 24)], [], 1⟩) (fun _ => by kernel_rfl) fun _ => ?_
            refine g_end (by kernel_rfl) ?_
            refine n_then ?_
            refine g_val 3 (v := .int .i64 (IntKind.i64.wrap ((m : Int) + 1))) (.int .i64 ((m + 1 : Nat) : Int)) (by kernel_rfl) (by rw [wrapN m (by omega)]) ?_
            refine g_val 5 (v := .int .i64 (IntKind.i64.wrap ((q : Int) + 1))) (.int .i64 ((q + 1 : Nat) : Int)) (by kernel_rfl) (by rw [wrapN q (by omega)]) ?_
            refine g_fin [0, 2, 3, 4, 5] [0] [] ⟨[(0, .v (.slice (some ⟨b, 0, none⟩) xs.length cap)), (2, .v (.slice none 0 0)), (3, .v (.int .i64 ((m + 1 : Nat) : Int))), (4, .v (.slice (some ⟨b, k * 1, none⟩) (xs.length - k) (cap - k))), (5, .v (.int .i64 ((q + 1 : Nat) : Int)))], [(0, .cells b (FL chI ((ys).set m x31) tail) 24)], [], 1⟩ (by kernel_rfl) ?_
            exact g_again (q + 1) ⟨(m + 1), _, rfl, ⟨by omega, (by have := CI.ne hI (b := x31) (a := x26) hzx31 (by rw [← hzx26]; congr 1; omega) hne3; rw [show k + (q + 1) = k + q + 1 by omega]; exact this)⟩, (fun _ _ h => (le20 _ _ h))⟩ (by omega)
          · replace hc28 := bnot_false hc28
            replace hc28 := beqI_t hc28
            refine g_skip ?_
            refine n_block ?_
            refine n_then ?_
            refine g_region ?_
            refine g_exec 3 [0, 2, 3, 4, 5] [0] [] (fun _ => ⟨[(0, .v (.slice (some ⟨b, 0, none⟩) xs.length cap)), (2, .v (.slice none 0 0)), (3, .v (.int .i64 (m : Int))), (4, .v (.slice (some ⟨b, k * 1, none⟩) (xs.length - k) (cap - k))), (5, .v (.int .i64 (IntKind.i64.wrap ((q : Int) + 1))))], [(0, .cells b (FL chI ys tail) 24)], [], 1⟩) (fun _ => by kernel_rfl) fun _ => ?_
            refine g_end (by kernel_rfl) ?_
            refine n_then ?_
            refine g_val 5 (v := .int .i64 (IntKind.i64.wrap ((q : Int) + 1))) (.int .i64 ((q + 1 : Nat) : Int)) (by kernel_rfl) (by rw [wrapN q (by omega)]) ?_
            refine g_fin [0, 2, 3, 4, 5] [0] [] ⟨[(0, .v (.slice (some ⟨b, 0, none⟩) xs.length cap)), (2, .v (.slice none 0 0)), (3, .v (.int .i64 (m : Int))), (4, .v (.slice (some ⟨b, k * 1, none⟩) (xs.length - k) (cap - k))), (5, .v (.int .i64 ((q + 1 : Nat) : Int)))], [(0, .cells b (FL chI ys tail) 24)], [], 1⟩ (by kernel_rfl) ?_
            exact g_again (q + 1) ⟨m, _, rfl, ⟨by omega, (by have := CI.eq hI (a := x23) hzx23 (by rw [hc28, ← hzx26]; congr 1; omega); rw [show k + (q + 1) = k + q + 1 by omega]; exact this)⟩, (fun _ _ h => (le20 _ _ h))⟩ (by omega)
        · replace hc22 := of_decide_eq_false hc22
          have hI1 := hI.1
          have hI2 := hI.2.1
          have hI3 := hI.2.2.1
          refine g_exit ?_
          refine n_then_exit ?_
          refine n_then_exit ?_
          refine n_block_exit ?_
          refine n_then ?_
          refine g_seq ?_
          refine g_region ?_
          refine g_exec 2 [0, 2, 3, 54, 55] [0] [] (fun _ => ⟨[(0, .v (.slice (some ⟨b, 0, none⟩) xs.length cap)), (2, .v (.slice none 0 0)), (3, .v (.int .i64 (m : Int))), (54, .v (.slice (some ⟨b, 0, none⟩) xs.length cap)), (55, .v (.int .i64 (m : Int)))], [(0, .cells b (FL chI ys tail) 24)], [], 1⟩) (fun _ => by kernel_rfl) fun _ => ?_
          have hI1 := hI.1
          have hI2 := hI.2.1
          have hI3 := hI.2.2.1
          refine g_sliceA (dst := some 56) (A := some ⟨b, 0, none⟩) (len := xs.length) (cap := cap) (sz := 1) m xs.length (.slice (some ⟨b, m * 1, none⟩) (xs.length - m) (cap - m)) (by kernel_rfl) (.inl rfl) (.inr ⟨rfl, rfl⟩) (by omega) (by omega) (by intros; omega) (sliced_of (by omega)) ?_
          obtain ⟨tl, htl⟩ : ∃ t, t = zerosL [.int .i64 0] (xs.length - m) ++ (FL chI ys tail).drop (m * 1 + (zerosL [.int .i64 0] (xs.length - m)).length) := ⟨_, rfl⟩
          refine g_clearA 0 (b := b) (o := m * 1) (n := xs.length - m) (t := 24) (cs := FL chI ys tail) (zc := [.int .i64 0]) (FL chI (ys.take m) tl) (by kernel_rfl) (by rfl) (by rw [FL_len (enc := chI) (sz := 1) (fun _ => rfl)]; show m * 1 + (xs.length - m) * 1 ≤ ys.length * 1 + tail.length; omega) (by rw [htl]; exact FL_clear (enc := chI) (sz := 1) (fun _ => rfl) _ _ _ _ (by omega)) ?_
          refine g_end (by kernel_rfl) ?_
          refine n_then ?_
          refine g_seq ?_
          refine g_region ?_
          refine g_exec 2 [0, 2, 3, 57, 58] [0] [] (fun _ => ⟨[(0, .v (.slice (some ⟨b, 0, none⟩) xs.length cap)), (2, .v (.slice none 0 0)), (3, .v (.int .i64 (m : Int))), (57, .v (.slice (some ⟨b, 0, none⟩) xs.length cap)), (58, .v (.int .i64 (m : Int)))], [(0, .cells b (FL chI (ys.take m) tl) 24)], [], 1⟩) (fun _ => by kernel_rfl) fun _ => ?_
          refine g_sliceA (dst := some 59) (A := some ⟨b, 0, none⟩) (len := xs.length) (cap := cap) (sz := 1) 0 m (.slice (some ⟨b, 0, none⟩) m cap) (by kernel_rfl) (.inr ⟨rfl, rfl⟩) (.inl rfl) (by omega) (by omega) (by intros; omega) (sliced_0) ?_
          refine g_exec 1 [0, 2, 3] [0] [] (fun _ => ⟨[(0, .v (.slice (some ⟨b, 0, none⟩) xs.length cap)), (2, .v (.slice (some ⟨b, 0, none⟩) m cap)), (3, .v (.int .i64 (m : Int)))], [(0, .cells b (FL chI (ys.take m) tl) 24)], [], 1⟩) (fun _ => by kernel_rfl) fun _ => ?_
          refine g_end (by kernel_rfl) ?_
          refine n_then ?_
          refine g_ret ?_
          refine n_block_ret ?_
          refine n_then_ret ?_
          refine n_then_ret ?_
          refine n_block_ret ?_
          refine n_then_ret ?_
          have hcp := CI.done hI (by omega)
          have hlen : (ys.take m).length = m := by rw [List.length_take]; omega
          have htl2 : m * 1 + tl.length = xs.length * 1 + tail.length := by rw [htl, List.length_append, List.length_drop, FL_len (enc := chI) (sz := 1) (fun _ => rfl), zerosL_length]; simp only [List.length_cons, List.length_nil]; omega
          refine n_postL [0] [.cells b (FL chI (ys.take m) tl) 24] (by rfl) (.slice (some ⟨b, 0, none⟩) m cap) (by kernel_rfl) ⟨tl, ?_, ?_, ?_⟩ <;> rw [← hcp]
          · rw [hlen]
          · rw [hlen]; exact htl2
      · replace hc15 := beqI_f hc15
        refine g_skip ?_
        refine n_block ?_
        refine n_then ?_
        refine g_region ?_
        refine g_exec 3 [0, 2, 3] [0] [] (fun _ => ⟨[(0, .v (.slice (some ⟨b, 0, none⟩) xs.length cap)), (2, .v (.slice none 0 0)), (3, .v (.int .i64 (IntKind.i64.wrap ((k : Int) + 1))))], [(0, .cells b (FL chI xs tail) 24)], [], 1⟩) (fun _ => by kernel_rfl) fun _ => ?_
        refine g_end (by kernel_rfl) ?_
        refine n_then ?_
        refine g_val 3 (v := .int .i64 (IntKind.i64.wrap ((k : Int) + 1))) (.int .i64 ((k + 1 : Nat) : Int)) (by kernel_rfl) (by rw [wrapN k (by omega)]) ?_
        refine g_fin [0, 2, 3] [0] [] ⟨[(0, .v (.slice (some ⟨b, 0, none⟩) xs.length cap)), (2, .v (.slice none 0 0)), (3, .v (.int .i64 ((k + 1 : Nat) : Int)))], [(0, .cells b (FL chI xs tail) 24)], [], 1⟩ (by kernel_rfl) ?_
        exact g_again (k + 1) ⟨rfl, ⟨by omega, by omega, cpt_keep (by omega) hc (a := x13) (b := x10) (by rw [← hzx13]; congr 1; omega) hzx10 (fun e => hc15 e.symm)⟩, (fun _ _ h => (le7 _ _ h))⟩ (by omega)
    · replace hc9 := of_decide_eq_false hc9
      refine g_exit ?_
      refine n_then_exit ?_
      refine n_then_exit ?_
      refine n_block_exit ?_
      refine n_then ?_
      refine g_seq ?_
      refine g_region ?_
      refine g_exec 2 [2] [0] [] (fun _ => ⟨[(2, .v (.slice (some ⟨b, 0, none⟩) xs.length cap))], [(0, .cells b (FL chI xs tail) 24)], [], 1⟩) (fun _ => by kernel_rfl) fun _ => ?_
      refine g_end (by kernel_rfl) ?_
      refine n_then ?_
      refine g_ret ?_
      have hcp : cpt xs = xs := by have := hc; rw [show k = xs.length by omega, List.take_length] at this; exact this
      refine n_postL [0] [.cells b (FL chI xs tail) 24] (by rfl) (.slice (some ⟨b, 0, none⟩) xs.length cap) (by kernel_rfl) ⟨tail, ?_, ?_, ?_⟩ <;> rw [hcp]
theorem compactI_calls {M : Mem} {w : World} (hM : Sat M w) (xs : List Int) (tail : List Value) (b cap : Nat) (hcap : xs.length ≤ cap) (hlen : xs.length ≤ 1099511627776) (hLent : Lent [.cells b (FL chI xs tail) 3] M w) : CtL Tryz.prog 56 [.slice (some ⟨b, 0, none⟩) xs.length cap] [.cells b (FL chI xs tail) 3] w M (fun v M' Lo => ∃ tl, v = .slice (some ⟨b, 0, none⟩) (cpt xs).length cap ∧ Lo = [.cells b (FL chI (cpt xs) tl) 3] ∧ (cpt xs).length * 1 + tl.length = xs.length * 1 + tail.length) := by
  refine enterL (n := 61) Tryz.func56 rfl rfl _ (by kernel_rfl) hM hLent ?_
  refine g_seq ?_
  refine g_region ?_
  refine g_exec 1 [0, 2] [0] [] (fun _ => ⟨[(0, .v (.slice (some ⟨b, 0, none⟩) xs.length cap)), (2, .v (.slice none 0 0))], [(0, .cells b (FL chI xs tail) 3)], [], 1⟩) (fun _ => by kernel_rfl) fun _ => ?_
  refine g_end (by kernel_rfl) ?_
  refine n_then ?_
  refine g_seq ?_
  refine g_seq ?_
  refine g_region ?_
  refine g_exec 3 [0, 2, 8] [0] [] (fun _ => ⟨[(0, .v (.slice (some ⟨b, 0, none⟩) xs.length cap)), (2, .v (.slice none 0 0)), (8, .v (.bool (decide (((xs.length : Nat) : Int) < 2))))], [(0, .cells b (FL chI xs tail) 3)], [], 1⟩) (fun _ => by kernel_rfl) fun _ => ?_
  refine g_end (by kernel_rfl) ?_
  refine n_then ?_
  refine g_cond (decide (((xs.length : Nat) : Int) < 2)) (by kernel_rfl) (fun hc3 => ?_) (fun hc3 => ?_)
  · replace hc3 := of_decide_eq_true hc3
    refine g_seq ?_
    refine g_region ?_
    refine g_exec 2 [0, 2] [0] [] (fun _ => ⟨[(0, .v (.slice (some ⟨b, 0, none⟩) xs.length cap)), (2, .v (.slice (some ⟨b, 0, none⟩) xs.length cap))], [(0, .cells b (FL chI xs tail) 3)], [], 1⟩) (fun _ => by kernel_rfl) fun _ => ?_
    refine g_end (by kernel_rfl) ?_
    refine n_then ?_
    refine g_ret ?_
    refine n_then_ret ?_
    have hcp : cpt xs = xs := cpt_short (by omega)
    refine n_postL [0] [.cells b (FL chI xs tail) 3] (by rfl) (.slice (some ⟨b, 0, none⟩) xs.length cap) (by kernel_rfl) ⟨tail, ?_, ?_, ?_⟩ <;> rw [hcp]
  · replace hc3 := of_decide_eq_false hc3
    refine g_skip ?_
    refine n_then ?_
    refine g_seq ?_
    refine g_seq ?_
    refine g_region ?_
    refine g_exec 1 [0, 2, 3] [0] [] (fun _ => ⟨[(0, .v (.slice (some ⟨b, 0, none⟩) xs.length cap)), (2, .v (.slice none 0 0)), (3, .v (.int .i64 1))], [(0, .cells b (FL chI xs tail) 3)], [], 1⟩) (fun _ => by kernel_rfl) fun _ => ?_
    refine g_end (by kernel_rfl) ?_
    refine n_then ?_
    refine g_block ?_
    refine g_fin [0, 2, 3] [0] [] ⟨[(0, .v (.slice (some ⟨b, 0, none⟩) xs.length cap)), (2, .v (.slice none 0 0)), (3, .v (.int .i64 1))], [(0, .cells b (FL chI xs tail) 3)], [], 1⟩ (by kernel_rfl) ?_
    refine g_while (ι := Nat) (fun k M6 s => s = ⟨[(0, .v (.slice (some ⟨b, 0, none⟩) xs.length cap)), (2, .v (.slice none 0 0)), (3, .v (.int .i64 (k : Int)))], [(0, .cells b (FL chI xs tail) 3)], [], 1⟩ ∧ (1 ≤ k ∧ k ≤ xs.length ∧ cpt (xs.take k) = xs.take k) ∧ (∀ a u, M a = some u → M6 a = some u)) (fun k => xs.length - k) 1 ⟨rfl, ⟨Nat.le_refl _, by omega, cpt_one xs⟩, (fun _ _ h => h)⟩ ?_
    rintro k M6 _ ⟨rfl, ⟨hk1, hk, hc⟩, le7⟩
    refine g_seq ?_
    refine g_seq ?_
    refine g_region ?_
    refine g_exec 4 [0, 2, 3, 13] [0] [] (fun _ => ⟨[(0, .v (.slice (some ⟨b, 0, none⟩) xs.length cap)), (2, .v (.slice none 0 0)), (3, .v (.int .i64 (k : Int))), (13, .v (.bool (decide ((k : Int) < ((xs.length : Nat) : Int)))))], [(0, .cells b (FL chI xs tail) 3)], [], 1⟩) (fun _ => by kernel_rfl) fun _ => ?_
    refine g_end (by kernel_rfl) ?_
    refine n_then ?_
    refine g_cond (decide ((k : Int) < ((xs.length : Nat) : Int))) (by kernel_rfl) (fun hc9 => ?_) (fun hc9 => ?_)
    · replace hc9 := of_decide_eq_true hc9
      refine g_skip ?_
      refine n_then ?_
      refine g_seq ?_
      refine g_block ?_
      refine g_seq ?_
      refine d_begin (by kernel_rfl) [0] [] 10 (by kernel_rfl) ?_
      refine dx_exec (fuel := 5) [0] [0, 1, 4, 5, 6] [0, 2, 3, 16, 17, 20, 22] [0] [] [true, true, false, false, true, true, true, false, false, false] ⟨[(0, .v (.slice (some ⟨b, 0, none⟩) xs.length cap)), (2, .v (.slice none 0 0)), (3, .v (.int .i64 (k : Int))), (16, .v (.slice (some ⟨b, 0, none⟩) xs.length cap)), (17, .v (.int .i64 (k : Int))), (20, .v (.slice (some ⟨b, 0, none⟩) xs.length cap)), (22, .v (.int .i64 (IntKind.i64.wrap ((k : Int) - 1))))], [(0, .cells b (FL chI xs tail) 3)], [], 1⟩ (by kernel_rfl) (fun _ _ h => h) (by kernel_rfl) (by kernel_rfl) ?_ rfl
      refine dx_yld (fuel := 4) (i := 2) [0] [true, true, true, false, true, true, true, false, false, false] (by kernel_rfl) (fun _ _ h => h) (by kernel_rfl) (y_index (dst := some 18) (b := b) (o := 0) (len := xs.length) (kk := .i64) (ii := (k : Int)) (sz := 1) (by kernel_rfl) (by omega) (by omega)) (by kernel_rfl) (by kernel_rfl) ?_ rfl
      obtain ⟨x10, hx10⟩ : ∃ p, (xs)[k]? = some p := ⟨_, List.getElem?_eq_getElem (show k < (xs).length by (try simp only [List.length_set]); omega)⟩
      have hzx10 := hx10
      have oe11 : 0 + k * 1 = k * 1 := by omega
      refine dx_yldO (fuel := 3) (i := 3) [0] 0 (b := b) (t := 3) (cs := FL chI xs tail) (by rfl) [true, true, true, true, true, true, true, false, false, false] (by kernel_rfl) (fun _ _ h => h) (by kernel_rfl) (y_load1 (dst := some 19) (ad := ⟨b, 0 + k * 1, none⟩) (sz := 1) (by kernel_rfl) (v := .int .i64 x10) (ov_at (cs := FL chI xs tail) (o := 0 + k * 1) (by rw [oe11]; exact FL_get (enc := chI) (sz := 1) (fun _ => rfl) hx10 0 _ rfl))) (by kernel_rfl) (by kernel_rfl) ?_ rfl
      have hw12 := wrapP k (by omega) (by omega)
      refine dx_yld (fuel := 2) (i := 7) [0] [true, true, true, true, true, true, true, true, false, false] (by kernel_rfl) (fun _ _ h => h) (by kernel_rfl) (y_index (dst := some 23) (b := b) (o := 0) (len := xs.length) (kk := .i64) (ii := (IntKind.i64.wrap ((k : Int) - 1))) (sz := 1) (by kernel_rfl) (by omega) (by omega)) (by kernel_rfl) (by kernel_rfl) ?_ rfl
      obtain ⟨x13, hx13⟩ : ∃ p, (xs)[(IntKind.i64.wrap ((k : Int) - 1)).toNat]? = some p := ⟨_, List.getElem?_eq_getElem (show (IntKind.i64.wrap ((k : Int) - 1)).toNat < (xs).length by (try simp only [List.length_set]); omega)⟩
      have hzx13 := hx13
      have oe14 : 0 + ((IntKind.i64.wrap ((k : Int) - 1)).toNat) * 1 = ((IntKind.i64.wrap ((k : Int) - 1)).toNat) * 1 := by omega
      refine dx_yldO (fuel := 1) (i := 8) [0] 0 (b := b) (t := 3) (cs := FL chI xs tail) (by rfl) [true, true, true, true, true, true, true, true, true, false] (by kernel_rfl) (fun _ _ h => h) (by kernel_rfl) (y_load1 (dst := some 24) (ad := ⟨b, 0 + ((IntKind.i64.wrap ((k : Int) - 1)).toNat) * 1, none⟩) (sz := 1) (by kernel_rfl) (v := .int .i64 x13) (ov_at (cs := FL chI xs tail) (o := 0 + ((IntKind.i64.wrap ((k : Int) - 1)).toNat) * 1) (by rw [oe14]; exact FL_get (enc := chI) (sz := 1) (fun _ => rfl) hx13 0 _ rfl))) (by kernel_rfl) (by kernel_rfl) ?_ rfl
      refine dx_exec (fuel := 0) [0] [9] [0, 2, 3, 25] [0] [] [true, true, true, true, true, true, true, true, true, true] ⟨[(0, .v (.slice (some ⟨b, 0, none⟩) xs.length cap)), (2, .v (.slice none 0 0)), (3, .v (.int .i64 (k : Int))), (25, .v (.bool (x10 == x13)))], [(0, .cells b (FL chI xs tail) 3)], [], 1⟩ (by kernel_rfl) (fun _ _ h => h) (by kernel_rfl) (by kernel_rfl) ?_ rfl
      refine d_end (by kernel_rfl) ?_
      refine n_then ?_
      refine g_cond ((x10 == x13)) (by kernel_rfl) (fun hc15 => ?_) (fun hc15 => ?_)
      · replace hc15 := beqI_t hc15
        refine g_seq ?_
        refine g_region ?_
        refine g_exec 2 [0, 2, 3, 26, 27] [0] [] (fun _ => ⟨[(0, .v (.slice (some ⟨b, 0, none⟩) xs.length cap)), (2, .v (.slice none 0 0)), (3, .v (.int .i64 (k : Int))), (26, .v (.slice (some ⟨b, 0, none⟩) xs.length cap)), (27, .v (.int .i64 (k : Int)))], [(0, .cells b (FL chI xs tail) 3)], [], 1⟩) (fun _ => by kernel_rfl) fun _ => ?_
        refine g_sliceA (dst := some 28) (A := some ⟨b, 0, none⟩) (len := xs.length) (cap := cap) (sz := 1) k xs.length (.slice (some ⟨b, k * 1, none⟩) (xs.length - k) (cap - k)) (by kernel_rfl) (.inl rfl) (.inr ⟨rfl, rfl⟩) (by omega) (by omega) (by intros; omega) (sliced_of (by omega)) ?_
        refine g_exec 1 [0, 2, 3, 4] [0] [] (fun _ => ⟨[(0, .v (.slice (some ⟨b, 0, none⟩) xs.length cap)), (2, .v (.slice none 0 0)), (3, .v (.int .i64 (k : Int))), (4, .v (.slice (some ⟨b, k * 1, none⟩) (xs.length - k) (cap - k)))], [(0, .cells b (FL chI xs tail) 3)], [], 1⟩) (fun _ => by kernel_rfl) fun _ => ?_
        refine g_end (by kernel_rfl) ?_
        refine n_then ?_
        refine g_seq ?_
        refine g_seq ?_
        refine g_region ?_
        refine g_exec 1 [0, 2, 3, 4, 5] [0] [] (fun _ => ⟨[(0, .v (.slice (some ⟨b, 0, none⟩) xs.length cap)), (2, .v (.slice none 0 0)), (3, .v (.int .i64 (k : Int))), (4, .v (.slice (some ⟨b, k * 1, none⟩) (xs.length - k) (cap - k))), (5, .v (.int .i64 1))], [(0, .cells b (FL chI xs tail) 3)], [], 1⟩) (fun _ => by kernel_rfl) fun _ => ?_
        refine g_end (by kernel_rfl) ?_
        refine n_then ?_
        refine g_block ?_
        have hst1 := CI.start (by omega) hc (a := x10) (by rw [hc15, ← hzx13]; congr 1; omega) hzx10
        refine g_fin [0, 2, 3, 4, 5] [0] [] ⟨[(0, .v (.slice (some ⟨b, 0, none⟩) xs.length cap)), (2, .v (.slice none 0 0)), (3, .v (.int .i64 (k : Int))), (4, .v (.slice (some ⟨b, k * 1, none⟩) (xs.length - k) (cap - k))), (5, .v (.int .i64 1))], [(0, .cells b (FL chI xs tail) 3)], [], 1⟩ (by kernel_rfl) ?_
        refine g_while (ι := Nat) (fun q M19 s => ∃ (m : Nat) (ys : List Int), s = ⟨[(0, .v (.slice (some ⟨b, 0, none⟩) xs.length cap)), (2, .v (.slice none 0 0)), (3, .v (.int .i64 (m : Int))), (4, .v (.slice (some ⟨b, k * 1, none⟩) (xs.length - k) (cap - k))), (5, .v (.int .i64 (q : Int)))], [(0, .cells b (FL chI ys tail) 3)], [], 1⟩ ∧ (1 ≤ q ∧ CI xs ys (k + q) m) ∧ (∀ a u, M6 a = some u → M19 a = some u)) (fun q => xs.length - k - q) 1 ⟨k, xs, rfl, ⟨Nat.le_refl _, hst1⟩, (fun _ _ h => h)⟩ ?_
        rintro q M19 _ ⟨m, ys, rfl, ⟨hq1, hI⟩, le20⟩
        refine g_seq ?_
        refine g_seq ?_
        refine g_region ?_
        refine g_exec 4 [0, 2, 3, 4, 5, 32] [0] [] (fun _ => ⟨[(0, .v (.slice (some ⟨b, 0, none⟩) xs.length cap)), (2, .v (.slice none 0 0)), (3, .v (.int .i64 (m : Int))), (4, .v (.slice (some ⟨b, k * 1, none⟩) (xs.length - k) (cap - k))), (5, .v (.int .i64 (q : Int))), (32, .v (.bool (decide ((q : Int) < (((xs.length - k) : Nat) : Int)))))], [(0, .cells b (FL chI ys tail) 3)], [], 1⟩) (fun _ => by kernel_rfl) fun _ => ?_
        refine g_end (by kernel_rfl) ?_
        refine n_then ?_
        refine g_cond (decide ((q : Int) < (((xs.length - k) : Nat) : Int))) (by kernel_rfl) (fun hc22 => ?_) (fun hc22 => ?_)
        · replace hc22 := of_decide_eq_true hc22
          have hI1 := hI.1
          have hI2 := hI.2.1
          have hI3 := hI.2.2.1
          refine g_skip ?_
          refine n_then ?_
          refine g_seq ?_
          refine g_block ?_
          refine g_seq ?_
          refine d_begin (by kernel_rfl) [0] [] 10 (by kernel_rfl) ?_
          refine dx_exec (fuel := 5) [0] [0, 1, 4, 5, 6] [0, 2, 3, 4, 5, 35, 36, 39, 41] [0] [] [true, true, false, false, true, true, true, false, false, false] ⟨[(0, .v (.slice (some ⟨b, 0, none⟩) xs.length cap)), (2, .v (.slice none 0 0)), (3, .v (.int .i64 (m : Int))), (4, .v (.slice (some ⟨b, k * 1, none⟩) (xs.length - k) (cap - k))), (5, .v (.int .i64 (q : Int))), (35, .v (.slice (some ⟨b, k * 1, none⟩) (xs.length - k) (cap - k))), (36, .v (.int .i64 (q : Int))), (39, .v (.slice (some ⟨b, k * 1, none⟩) (xs.length - k) (cap - k))), (41, .v (.int .i64 (IntKind.i64.wrap ((q : Int) - 1))))], [(0, .cells b (FL chI ys tail) 3)], [], 1⟩ (by kernel_rfl) (fun _ _ h => h) (by kernel_rfl) (by kernel_rfl) ?_ rfl
          refine dx_yld (fuel := 4) (i := 2) [0] [true, true, true, false, true, true, true, false, false, false] (by kernel_rfl) (fun _ _ h => h) (by kernel_rfl) (y_index (dst := some 37) (b := b) (o := k * 1) (len := (xs.length - k)) (kk := .i64) (ii := (q : Int)) (sz := 1) (by kernel_rfl) (by omega) (by omega)) (by kernel_rfl) (by kernel_rfl) ?_ rfl
          obtain ⟨x23, hx23⟩ : ∃ p, (ys)[(k + q)]? = some p := ⟨_, List.getElem?_eq_getElem (show (k + q) < (ys).length by (try simp only [List.length_set]); omega)⟩
          have hzx23 := hx23
          have oe24 : k * 1 + q * 1 = (k + q) * 1 := by omega
          refine dx_yldO (fuel := 3) (i := 3) [0] 0 (b := b) (t := 3) (cs := FL chI ys tail) (by rfl) [true, true, true, true, true, true, true, false, false, false] (by kernel_rfl) (fun _ _ h => h) (by kernel_rfl) (y_load1 (dst := some 38) (ad := ⟨b, k * 1 + q * 1, none⟩) (sz := 1) (by kernel_rfl) (v := .int .i64 x23) (ov_at (cs := FL chI ys tail) (o := k * 1 + q * 1) (by rw [oe24]; exact FL_get (enc := chI) (sz := 1) (fun _ => rfl) hx23 0 _ rfl))) (by kernel_rfl) (by kernel_rfl) ?_ rfl
          have hw25 := wrapP q (by omega) (by omega)
          refine dx_yld (fuel := 2) (i := 7) [0] [true, true, true, true, true, true, true, true, false, false] (by kernel_rfl) (fun _ _ h => h) (by kernel_rfl) (y_index (dst := some 42) (b := b) (o := k * 1) (len := (xs.length - k)) (kk := .i64) (ii := (IntKind.i64.wrap ((q : Int) - 1))) (sz := 1) (by kernel_rfl) (by omega) (by omega)) (by kernel_rfl) (by kernel_rfl) ?_ rfl
          obtain ⟨x26, hx26⟩ : ∃ p, (ys)[(k + (IntKind.i64.wrap ((q : Int) - 1)).toNat)]? = some p := ⟨_, List.getElem?_eq_getElem (show (k + (IntKind.i64.wrap ((q : Int) - 1)).toNat) < (ys).length by (try simp only [List.length_set]); omega)⟩
          have hzx26 := hx26
          have oe27 : k * 1 + ((IntKind.i64.wrap ((q : Int) - 1)).toNat) * 1 = (k + (IntKind.i64.wrap ((q : Int) - 1)).toNat) * 1 := by omega
          refine dx_yldO (fuel := 1) (i := 8) [0] 0 (b := b) (t := 3) (cs := FL chI ys tail) (by rfl) [true, true, true, true, true, true, true, true, true, false] (by kernel_rfl) (fun _ _ h => h) (by kernel_rfl) (y_load1 (dst := some 43) (ad := ⟨b, k * 1 + ((IntKind.i64.wrap ((q : Int) - 1)).toNat) * 1, none⟩) (sz := 1) (by kernel_rfl) (v := .int .i64 x26) (ov_at (cs := FL chI ys tail) (o := k * 1 + ((IntKind.i64.wrap ((q : Int) - 1)).toNat) * 1) (by rw [oe27]; exact FL_get (enc := chI) (sz := 1) (fun _ => rfl) hx26 0 _ rfl))) (by kernel_rfl) (by kernel_rfl) ?_ rfl
          refine dx_exec (fuel := 0) [0] [9] [0, 2, 3, 4, 5, 44] [0] [] [true, true, true, true, true, true, true, true, true, true] ⟨[(0, .v (.slice (some ⟨b, 0, none⟩) xs.length cap)), (2, .v (.slice none 0 0)), (3, .v (.int .i64 (m : Int))), (4, .v (.slice (some ⟨b, k * 1, none⟩) (xs.length - k) (cap - k))), (5, .v (.int .i64 (q : Int))), (44, .v (.bool (x23 != x26)))], [(0, .cells b (FL chI ys tail) 3)], [], 1⟩ (by kernel_rfl) (fun _ _ h => h) (by kernel_rfl) (by kernel_rfl) ?_ rfl
          refine d_end (by kernel_rfl) ?_
          refine n_then ?_
          refine g_cond ((x23 != x26)) (by kernel_rfl) (fun hc28 => ?_) (fun hc28 => ?_)
          · replace hc28 := bnot_true hc28
            replace hc28 := beqI_f hc28
            refine g_seq ?_
            refine g_region ?_
            refine g_exec 4 [0, 2, 3, 4, 5, 45, 46, 47, 48] [0] [] (fun _ => ⟨[(0, .v (.slice (some ⟨b, 0, none⟩) xs.length cap)), (2, .v (.slice none 0 0)), (3, .v (.int .i64 (m : Int))), (4, .v (.slice (some ⟨b, k * 1, none⟩) (xs.length - k) (cap - k))), (5, .v (.int .i64 (q : Int))), (45, .v (.slice (some ⟨b, 0, none⟩) xs.length cap)), (46, .v (.int .i64 (m : Int))), (47, .v (.slice (some ⟨b, k * 1, none⟩) (xs.length - k) (cap - k))), (48, .v (.int .i64 (q : Int)))], [(0, .cells b (FL chI ys tail) 3)], [], 1⟩) (fun _ => by kernel_rfl) fun _ => ?_
            refine g_yld (y_index (dst := some 49) (b := b) (o := k * 1) (len := (xs.length - k)) (kk := .i64) (ii := (q : Int)) (sz := 1) (by kernel_rfl) (by omega) (by omega)) ?_
            obtain ⟨x31, hx31⟩ : ∃ p, (ys)[(k + q)]? = some p := ⟨_, List.getElem?_eq_getElem (show (k + q) < (ys).length by (try simp only [List.length_set]); omega)⟩
            have hzx31 := hx31
            have hne3 : x26 ≠ x31 := fun e => hc28 (by rw [show x23 = x31 from Option.some.inj (hzx23.symm.trans hzx31), ← e])
            have oe32 : k * 1 + q * 1 = (k + q) * 1 := by omega
            refine g_yldO 0 (b := b) (t := 3) (cs := FL chI ys tail) (by rfl) (y_load1 (dst := some 50) (ad := ⟨b, k * 1 + q * 1, none⟩) (sz := 1) (by kernel_rfl) (v := .int .i64 x31) (ov_at (cs := FL chI ys tail) (o := k * 1 + q * 1) (by rw [oe32]; exact FL_get (enc := chI) (sz := 1) (fun _ => rfl) hx31 0 _ rfl))) ?_
            refine g_yld (y_index (dst := some 51) (b := b) (o := 0) (len := xs.length) (kk := .i64) (ii := (m : Int)) (sz := 1) (by kernel_rfl) (by omega) (by omega)) ?_
            have oe35 : 0 + m * 1 = m * 1 := by omega
            refine g_storeA 0 (b := b) (o := 0 + m * 1) (sz := 1) (t := 3) (v := .int .i64 x31) (cs := FL chI ys tail) (FL chI ((ys).set m x31) tail) (by kernel_rfl) (by rfl) [.int .i64 x31] rfl rfl rfl (by rw [FL_len (enc := chI) (sz := 1) (fun _ => rfl)]; (try simp only [List.length_set]); omega) (by rw [oe35]; exact FL_set (enc := chI) (sz := 1) (fun _ => rfl) _ _ _ (by (try simp only [List.length_set]); omega) x31) ?_
            refine g_end (by kernel_rfl) ?_
            refine n_then ?_
            refine g_region ?_
            refine g_exec 3 [0, 2, 3, 4, 5] [0] [] (fun _ => ⟨[(0, .v (.slice (some ⟨b, 0, none⟩) xs.length cap)), (2, .v (.slice none 0 0)), (3, .v (.int .i64 (IntKind.i64.wrap ((m : Int) + 1)))), (4, .v (.slice (some ⟨b, k * 1, none⟩) (xs.length - k) (cap - k))), (5, .v (.int .i64 (q : Int)))], [(0, .cells b (FL chI ((ys).set m x31) tail) 3)], [], 1⟩) (fun _ => by kernel_rfl) fun _ => ?_
            refine g_end (by kernel_rfl) ?_
            refine n_block ?_
            refine n_then ?_
            refine g_region ?_
            refine g_exec 3 [0, 2, 3, 4, 5] [0] [] (fun _ => ⟨[(0, .v (.slice (some ⟨b, 0, none⟩) xs.length cap)), (2, .v (.slice none 0 0)), (3, .v (.int .i64 (IntKind.i64.wrap ((m : Int) + 1)))), (4, .v (.slice (some ⟨b, k * 1, none⟩) (xs.length - k) (cap - k))), (5, .v (.int .i64 (IntKind.i64.wrap ((q : Int) + 1))))], [(0, .cells b (FL chI ((ys).set m x31) tail) 3)], [], 1⟩) (fun _ => by kernel_rfl) fun _ => ?_
            refine g_end (by kernel_rfl) ?_
            refine n_then ?_
            refine g_val 3 (v := .int .i64 (IntKind.i64.wrap ((m : Int) + 1))) (.int .i64 ((m + 1 : Nat) : Int)) (by kernel_rfl) (by rw [wrapN m (by omega)]) ?_
            refine g_val 5 (v := .int .i64 (IntKind.i64.wrap ((q : Int) + 1))) (.int .i64 ((q + 1 : Nat) : Int)) (by kernel_rfl) (by rw [wrapN q (by omega)]) ?_
            refine g_fin [0, 2, 3, 4, 5] [0] [] ⟨[(0, .v (.slice (some ⟨b, 0, none⟩) xs.length cap)), (2, .v (.slice none 0 0)), (3, .v (.int .i64 ((m + 1 : Nat) : Int))), (4, .v (.slice (some ⟨b, k * 1, none⟩) (xs.length - k) (cap - k))), (5, .v (.int .i64 ((q + 1 : Nat) : Int)))], [(0, .cells b (FL chI ((ys).set m x31) tail) 3)], [], 1⟩ (by kernel_rfl) ?_
            exact g_again (q + 1) ⟨(m + 1), _, rfl, ⟨by omega, (by have := CI.ne hI (b := x31) (a := x26) hzx31 (by rw [← hzx26]; congr 1; omega) hne3; rw [show k + (q + 1) = k + q + 1 by omega]; exact this)⟩, (fun _ _ h => (le20 _ _ h))⟩ (by omega)
          · replace hc28 := bnot_false hc28
            replace hc28 := beqI_t hc28
            refine g_skip ?_
            refine n_block ?_
            refine n_then ?_
            refine g_region ?_
            refine g_exec 3 [0, 2, 3, 4, 5] [0] [] (fun _ => ⟨[(0, .v (.slice (some ⟨b, 0, none⟩) xs.length cap)), (2, .v (.slice none 0 0)), (3, .v (.int .i64 (m : Int))), (4, .v (.slice (some ⟨b, k * 1, none⟩) (xs.length - k) (cap - k))), (5, .v (.int .i64 (IntKind.i64.wrap ((q : Int) + 1))))], [(0, .cells b (FL chI ys tail) 3)], [], 1⟩) (fun _ => by kernel_rfl) fun _ => ?_
            refine g_end (by kernel_rfl) ?_
            refine n_then ?_
            refine g_val 5 (v := .int .i64 (IntKind.i64.wrap ((q : Int) + 1))) (.int .i64 ((q + 1 : Nat) : Int)) (by kernel_rfl) (by rw [wrapN q (by omega)]) ?_
            refine g_fin [0, 2, 3, 4, 5] [0] [] ⟨[(0, .v (.slice (some ⟨b, 0, none⟩) xs.length cap)), (2, .v (.slice none 0 0)), (3, .v (.int .i64 (m : Int))), (4, .v (.slice (some ⟨b, k * 1, none⟩) (xs.length - k) (cap - k))), (5, .v (.int .i64 ((q + 1 : Nat) : Int)))], [(0, .cells b (FL chI ys tail) 3)], [], 1⟩ (by kernel_rfl) ?_
            exact g_again (q + 1) ⟨m, _, rfl, ⟨by omega, (by have := CI.eq hI (a := x23) hzx23 (by rw [hc28, ← hzx26]; congr 1; omega); rw [show k + (q + 1) = k + q + 1 by omega]; exact this)⟩, (fun _ _ h => (le20 _ _ h))⟩ (by omega)
        · replace hc22 := of_decide_eq_false hc22
          have hI1 := hI.1
          have hI2 := hI.2.1
          have hI3 := hI.2.2.1
          refine g_exit ?_
          refine n_then_exit ?_
          refine n_then_exit ?_
          refine n_block_exit ?_
          refine n_then ?_
          refine g_seq ?_
          refine g_region ?_
          refine g_exec 2 [0, 2, 3, 54, 55] [0] [] (fun _ => ⟨[(0, .v (.slice (some ⟨b, 0, none⟩) xs.length cap)), (2, .v (.slice none 0 0)), (3, .v (.int .i64 (m : Int))), (54, .v (.slice (some ⟨b, 0, none⟩) xs.length cap)), (55, .v (.int .i64 (m : Int)))], [(0, .cells b (FL chI ys tail) 3)], [], 1⟩) (fun _ => by kernel_rfl) fun _ => ?_
          have hI1 := hI.1
          have hI2 := hI.2.1
          have hI3 := hI.2.2.1
          refine g_sliceA (dst := some 56) (A := some ⟨b, 0, none⟩) (len := xs.length) (cap := cap) (sz := 1) m xs.length (.slice (some ⟨b, m * 1, none⟩) (xs.length - m) (cap - m)) (by kernel_rfl) (.inl rfl) (.inr ⟨rfl, rfl⟩) (by omega) (by omega) (by intros; omega) (sliced_of (by omega)) ?_
          obtain ⟨tl, htl⟩ : ∃ t, t = zerosL [.int .i64 0] (xs.length - m) ++ (FL chI ys tail).drop (m * 1 + (zerosL [.int .i64 0] (xs.length - m)).length) := ⟨_, rfl⟩
          refine g_clearA 0 (b := b) (o := m * 1) (n := xs.length - m) (t := 3) (cs := FL chI ys tail) (zc := [.int .i64 0]) (FL chI (ys.take m) tl) (by kernel_rfl) (by rfl) (by rw [FL_len (enc := chI) (sz := 1) (fun _ => rfl)]; show m * 1 + (xs.length - m) * 1 ≤ ys.length * 1 + tail.length; omega) (by rw [htl]; exact FL_clear (enc := chI) (sz := 1) (fun _ => rfl) _ _ _ _ (by omega)) ?_
          refine g_end (by kernel_rfl) ?_
          refine n_then ?_
          refine g_seq ?_
          refine g_region ?_
          refine g_exec 2 [0, 2, 3, 57, 58] [0] [] (fun _ => ⟨[(0, .v (.slice (some ⟨b, 0, none⟩) xs.length cap)), (2, .v (.slice none 0 0)), (3, .v (.int .i64 (m : Int))), (57, .v (.slice (some ⟨b, 0, none⟩) xs.length cap)), (58, .v (.int .i64 (m : Int)))], [(0, .cells b (FL chI (ys.take m) tl) 3)], [], 1⟩) (fun _ => by kernel_rfl) fun _ => ?_
          refine g_sliceA (dst := some 59) (A := some ⟨b, 0, none⟩) (len := xs.length) (cap := cap) (sz := 1) 0 m (.slice (some ⟨b, 0, none⟩) m cap) (by kernel_rfl) (.inr ⟨rfl, rfl⟩) (.inl rfl) (by omega) (by omega) (by intros; omega) (sliced_0) ?_
          refine g_exec 1 [0, 2, 3] [0] [] (fun _ => ⟨[(0, .v (.slice (some ⟨b, 0, none⟩) xs.length cap)), (2, .v (.slice (some ⟨b, 0, none⟩) m cap)), (3, .v (.int .i64 (m : Int)))], [(0, .cells b (FL chI (ys.take m) tl) 3)], [], 1⟩) (fun _ => by kernel_rfl) fun _ => ?_
          refine g_end (by kernel_rfl) ?_
          refine n_then ?_
          refine g_ret ?_
          refine n_block_ret ?_
          refine n_then_ret ?_
          refine n_then_ret ?_
          refine n_block_ret ?_
          refine n_then_ret ?_
          have hcp := CI.done hI (by omega)
          have hlen : (ys.take m).length = m := by rw [List.length_take]; omega
          have htl2 : m * 1 + tl.length = xs.length * 1 + tail.length := by rw [htl, List.length_append, List.length_drop, FL_len (enc := chI) (sz := 1) (fun _ => rfl), zerosL_length]; simp only [List.length_cons, List.length_nil]; omega
          refine n_postL [0] [.cells b (FL chI (ys.take m) tl) 3] (by rfl) (.slice (some ⟨b, 0, none⟩) m cap) (by kernel_rfl) ⟨tl, ?_, ?_, ?_⟩ <;> rw [← hcp]
          · rw [hlen]
          · rw [hlen]; exact htl2
      · replace hc15 := beqI_f hc15
        refine g_skip ?_
        refine n_block ?_
        refine n_then ?_
        refine g_region ?_
        refine g_exec 3 [0, 2, 3] [0] [] (fun _ => ⟨[(0, .v (.slice (some ⟨b, 0, none⟩) xs.length cap)), (2, .v (.slice none 0 0)), (3, .v (.int .i64 (IntKind.i64.wrap ((k : Int) + 1))))], [(0, .cells b (FL chI xs tail) 3)], [], 1⟩) (fun _ => by kernel_rfl) fun _ => ?_
        refine g_end (by kernel_rfl) ?_
        refine n_then ?_
        refine g_val 3 (v := .int .i64 (IntKind.i64.wrap ((k : Int) + 1))) (.int .i64 ((k + 1 : Nat) : Int)) (by kernel_rfl) (by rw [wrapN k (by omega)]) ?_
        refine g_fin [0, 2, 3] [0] [] ⟨[(0, .v (.slice (some ⟨b, 0, none⟩) xs.length cap)), (2, .v (.slice none 0 0)), (3, .v (.int .i64 ((k + 1 : Nat) : Int)))], [(0, .cells b (FL chI xs tail) 3)], [], 1⟩ (by kernel_rfl) ?_
        exact g_again (k + 1) ⟨rfl, ⟨by omega, by omega, cpt_keep (by omega) hc (a := x13) (b := x10) (by rw [← hzx13]; congr 1; omega) hzx10 (fun e => hc15 e.symm)⟩, (fun _ _ h => (le7 _ _ h))⟩ (by omega)
    · replace hc9 := of_decide_eq_false hc9
      refine g_exit ?_
      refine n_then_exit ?_
      refine n_then_exit ?_
      refine n_block_exit ?_
      refine n_then ?_
      refine g_seq ?_
      refine g_region ?_
      refine g_exec 2 [2] [0] [] (fun _ => ⟨[(2, .v (.slice (some ⟨b, 0, none⟩) xs.length cap))], [(0, .cells b (FL chI xs tail) 3)], [], 1⟩) (fun _ => by kernel_rfl) fun _ => ?_
      refine g_end (by kernel_rfl) ?_
      refine n_then ?_
      refine g_ret ?_
      have hcp : cpt xs = xs := by have := hc; rw [show k = xs.length by omega, List.take_length] at this; exact this
      refine n_postL [0] [.cells b (FL chI xs tail) 3] (by rfl) (.slice (some ⟨b, 0, none⟩) xs.length cap) (by kernel_rfl) ⟨tail, ?_, ?_, ?_⟩ <;> rw [hcp]
theorem compactP_calls {M : Mem} {w : World} (hM : Sat M w) (xs : List (Int × Int)) (tail : List Value) (b cap : Nat) (hcap : xs.length ≤ cap) (hlen : xs.length ≤ 1099511627776) (hLent : Lent [.cells b (FL chP xs tail) 53] M w) : CtL Tryz.prog 43 [.slice (some ⟨b, 0, none⟩) xs.length cap] [.cells b (FL chP xs tail) 53] w M (fun v M' Lo => ∃ tl, v = .slice (some ⟨b, 0, none⟩) (cpt xs).length cap ∧ Lo = [.cells b (FL chP (cpt xs) tl) 53] ∧ (cpt xs).length * 2 + tl.length = xs.length * 2 + tail.length) := by
  refine enterL (n := 61) Tryz.func43 rfl rfl _ (by kernel_rfl) hM hLent ?_
  refine g_seq ?_
  refine g_region ?_
  refine g_exec 1 [0, 2] [0] [] (fun _ => ⟨[(0, .v (.slice (some ⟨b, 0, none⟩) xs.length cap)), (2, .v (.slice none 0 0))], [(0, .cells b (FL chP xs tail) 53)], [], 1⟩) (fun _ => by kernel_rfl) fun _ => ?_
  refine g_end (by kernel_rfl) ?_
  refine n_then ?_
  refine g_seq ?_
  refine g_seq ?_
  refine g_region ?_
  refine g_exec 3 [0, 2, 8] [0] [] (fun _ => ⟨[(0, .v (.slice (some ⟨b, 0, none⟩) xs.length cap)), (2, .v (.slice none 0 0)), (8, .v (.bool (decide (((xs.length : Nat) : Int) < 2))))], [(0, .cells b (FL chP xs tail) 53)], [], 1⟩) (fun _ => by kernel_rfl) fun _ => ?_
  refine g_end (by kernel_rfl) ?_
  refine n_then ?_
  refine g_cond (decide (((xs.length : Nat) : Int) < 2)) (by kernel_rfl) (fun hc3 => ?_) (fun hc3 => ?_)
  · replace hc3 := of_decide_eq_true hc3
    refine g_seq ?_
    refine g_region ?_
    refine g_exec 2 [0, 2] [0] [] (fun _ => ⟨[(0, .v (.slice (some ⟨b, 0, none⟩) xs.length cap)), (2, .v (.slice (some ⟨b, 0, none⟩) xs.length cap))], [(0, .cells b (FL chP xs tail) 53)], [], 1⟩) (fun _ => by kernel_rfl) fun _ => ?_
    refine g_end (by kernel_rfl) ?_
    refine n_then ?_
    refine g_ret ?_
    refine n_then_ret ?_
    have hcp : cpt xs = xs := cpt_short (by omega)
    refine n_postL [0] [.cells b (FL chP xs tail) 53] (by rfl) (.slice (some ⟨b, 0, none⟩) xs.length cap) (by kernel_rfl) ⟨tail, ?_, ?_, ?_⟩ <;> rw [hcp]
  · replace hc3 := of_decide_eq_false hc3
    refine g_skip ?_
    refine n_then ?_
    refine g_seq ?_
    refine g_seq ?_
    refine g_region ?_
    refine g_exec 1 [0, 2, 3] [0] [] (fun _ => ⟨[(0, .v (.slice (some ⟨b, 0, none⟩) xs.length cap)), (2, .v (.slice none 0 0)), (3, .v (.int .i64 1))], [(0, .cells b (FL chP xs tail) 53)], [], 1⟩) (fun _ => by kernel_rfl) fun _ => ?_
    refine g_end (by kernel_rfl) ?_
    refine n_then ?_
    refine g_block ?_
    refine g_fin [0, 2, 3] [0] [] ⟨[(0, .v (.slice (some ⟨b, 0, none⟩) xs.length cap)), (2, .v (.slice none 0 0)), (3, .v (.int .i64 1))], [(0, .cells b (FL chP xs tail) 53)], [], 1⟩ (by kernel_rfl) ?_
    refine g_while (ι := Nat) (fun k M6 s => s = ⟨[(0, .v (.slice (some ⟨b, 0, none⟩) xs.length cap)), (2, .v (.slice none 0 0)), (3, .v (.int .i64 (k : Int)))], [(0, .cells b (FL chP xs tail) 53)], [], 1⟩ ∧ (1 ≤ k ∧ k ≤ xs.length ∧ cpt (xs.take k) = xs.take k) ∧ (∀ a u, M a = some u → M6 a = some u)) (fun k => xs.length - k) 1 ⟨rfl, ⟨Nat.le_refl _, by omega, cpt_one xs⟩, (fun _ _ h => h)⟩ ?_
    rintro k M6 _ ⟨rfl, ⟨hk1, hk, hc⟩, le7⟩
    refine g_seq ?_
    refine g_seq ?_
    refine g_region ?_
    refine g_exec 4 [0, 2, 3, 13] [0] [] (fun _ => ⟨[(0, .v (.slice (some ⟨b, 0, none⟩) xs.length cap)), (2, .v (.slice none 0 0)), (3, .v (.int .i64 (k : Int))), (13, .v (.bool (decide ((k : Int) < ((xs.length : Nat) : Int)))))], [(0, .cells b (FL chP xs tail) 53)], [], 1⟩) (fun _ => by kernel_rfl) fun _ => ?_
    refine g_end (by kernel_rfl) ?_
    refine n_then ?_
    refine g_cond (decide ((k : Int) < ((xs.length : Nat) : Int))) (by kernel_rfl) (fun hc9 => ?_) (fun hc9 => ?_)
    · replace hc9 := of_decide_eq_true hc9
      refine g_skip ?_
      refine n_then ?_
      refine g_seq ?_
      refine g_block ?_
      refine g_seq ?_
      refine d_begin (by kernel_rfl) [0] [] 10 (by kernel_rfl) ?_
      refine dx_exec (fuel := 5) [0] [0, 1, 4, 5, 6] [0, 2, 3, 16, 17, 20, 22] [0] [] [true, true, false, false, true, true, true, false, false, false] ⟨[(0, .v (.slice (some ⟨b, 0, none⟩) xs.length cap)), (2, .v (.slice none 0 0)), (3, .v (.int .i64 (k : Int))), (16, .v (.slice (some ⟨b, 0, none⟩) xs.length cap)), (17, .v (.int .i64 (k : Int))), (20, .v (.slice (some ⟨b, 0, none⟩) xs.length cap)), (22, .v (.int .i64 (IntKind.i64.wrap ((k : Int) - 1))))], [(0, .cells b (FL chP xs tail) 53)], [], 1⟩ (by kernel_rfl) (fun _ _ h => h) (by kernel_rfl) (by kernel_rfl) ?_ rfl
      refine dx_yld (fuel := 4) (i := 2) [0] [true, true, true, false, true, true, true, false, false, false] (by kernel_rfl) (fun _ _ h => h) (by kernel_rfl) (y_index (dst := some 18) (b := b) (o := 0) (len := xs.length) (kk := .i64) (ii := (k : Int)) (sz := 2) (by kernel_rfl) (by omega) (by omega)) (by kernel_rfl) (by kernel_rfl) ?_ rfl
      obtain ⟨x10, hx10⟩ : ∃ p, (xs)[k]? = some p := ⟨_, List.getElem?_eq_getElem (show k < (xs).length by (try simp only [List.length_set]); omega)⟩
      have hzx10 := hx10
      have oe11 : 0 + k * 2 = k * 2 := by omega
      refine dx_yldO (fuel := 3) (i := 3) [0] 0 (b := b) (t := 53) (cs := FL chP xs tail) (by rfl) [true, true, true, true, true, true, true, false, false, false] (by kernel_rfl) (fun _ _ h => h) (by kernel_rfl) (y_loads (dst := some 19) (b := b) (o := 0 + k * 2) (sz := 2) (by kernel_rfl) (cs := [.int .i64 x10.1, .int .i64 x10.2]) rfl (fun j v hj => ov_at (cs := FL chP xs tail) (o := 0 + k * 2 + j) (by rw [oe11]; exact FL_get (enc := chP) (sz := 2) (fun _ => rfl) hx10 j v hj))) (by kernel_rfl) (by kernel_rfl) ?_ rfl
      have hw12 := wrapP k (by omega) (by omega)
      refine dx_yld (fuel := 2) (i := 7) [0] [true, true, true, true, true, true, true, true, false, false] (by kernel_rfl) (fun _ _ h => h) (by kernel_rfl) (y_index (dst := some 23) (b := b) (o := 0) (len := xs.length) (kk := .i64) (ii := (IntKind.i64.wrap ((k : Int) - 1))) (sz := 2) (by kernel_rfl) (by omega) (by omega)) (by kernel_rfl) (by kernel_rfl) ?_ rfl
      obtain ⟨x13, hx13⟩ : ∃ p, (xs)[(IntKind.i64.wrap ((k : Int) - 1)).toNat]? = some p := ⟨_, List.getElem?_eq_getElem (show (IntKind.i64.wrap ((k : Int) - 1)).toNat < (xs).length by (try simp only [List.length_set]); omega)⟩
      have hzx13 := hx13
      have oe14 : 0 + ((IntKind.i64.wrap ((k : Int) - 1)).toNat) * 2 = ((IntKind.i64.wrap ((k : Int) - 1)).toNat) * 2 := by omega
      refine dx_yldO (fuel := 1) (i := 8) [0] 0 (b := b) (t := 53) (cs := FL chP xs tail) (by rfl) [true, true, true, true, true, true, true, true, true, false] (by kernel_rfl) (fun _ _ h => h) (by kernel_rfl) (y_loads (dst := some 24) (b := b) (o := 0 + ((IntKind.i64.wrap ((k : Int) - 1)).toNat) * 2) (sz := 2) (by kernel_rfl) (cs := [.int .i64 x13.1, .int .i64 x13.2]) rfl (fun j v hj => ov_at (cs := FL chP xs tail) (o := 0 + ((IntKind.i64.wrap ((k : Int) - 1)).toNat) * 2 + j) (by rw [oe14]; exact FL_get (enc := chP) (sz := 2) (fun _ => rfl) hx13 j v hj))) (by kernel_rfl) (by kernel_rfl) ?_ rfl
      refine dx_yld (fuel := 0) (i := 9) [0] [true, true, true, true, true, true, true, true, true, true] (by kernel_rfl) (fun _ _ h => h) (by kernel_rfl) (y_eq (dst := some 25) (r := ((x10.1 == x13.1) && ((x10.2 == x13.2) && true))) (by kernel_rfl)) (by kernel_rfl) (by kernel_rfl) ?_ rfl
      refine d_end (by kernel_rfl) ?_
      refine n_then ?_
      refine g_cond (((x10.1 == x13.1) && ((x10.2 == x13.2) && true))) (by kernel_rfl) (fun hc15 => ?_) (fun hc15 => ?_)
      · replace hc15 := beqP_t hc15
        refine g_seq ?_
        refine g_region ?_
        refine g_exec 2 [0, 2, 3, 26, 27] [0] [] (fun _ => ⟨[(0, .v (.slice (some ⟨b, 0, none⟩) xs.length cap)), (2, .v (.slice none 0 0)), (3, .v (.int .i64 (k : Int))), (26, .v (.slice (some ⟨b, 0, none⟩) xs.length cap)), (27, .v (.int .i64 (k : Int)))], [(0, .cells b (FL chP xs tail) 53)], [], 1⟩) (fun _ => by kernel_rfl) fun _ => ?_
        refine g_sliceA (dst := some 28) (A := some ⟨b, 0, none⟩) (len := xs.length) (cap := cap) (sz := 2) k xs.length (.slice (some ⟨b, k * 2, none⟩) (xs.length - k) (cap - k)) (by kernel_rfl) (.inl rfl) (.inr ⟨rfl, rfl⟩) (by omega) (by omega) (by intros; omega) (sliced_of (by omega)) ?_
        refine g_exec 1 [0, 2, 3, 4] [0] [] (fun _ => ⟨[(0, .v (.slice (some ⟨b, 0, none⟩) xs.length cap)), (2, .v (.slice none 0 0)), (3, .v (.int .i64 (k : Int))), (4, .v (.slice (some ⟨b, k * 2, none⟩) (xs.length - k) (cap - k)))], [(0, .cells b (FL chP xs tail) 53)], [], 1⟩) (fun _ => by kernel_rfl) fun _ => ?_
        refine g_end (by kernel_rfl) ?_
        refine n_then ?_
        refine g_seq ?_
        refine g_seq ?_
        refine g_region ?_
        refine g_exec 1 [0, 2, 3, 4, 5] [0] [] (fun _ => ⟨[(0, .v (.slice (some ⟨b, 0, none⟩) xs.length cap)), (2, .v (.slice none 0 0)), (3, .v (.int .i64 (k : Int))), (4, .v (.slice (some ⟨b, k * 2, none⟩) (xs.length - k) (cap - k))), (5, .v (.int .i64 1))], [(0, .cells b (FL chP xs tail) 53)], [], 1⟩) (fun _ => by kernel_rfl) fun _ => ?_
        refine g_end (by kernel_rfl) ?_
        refine n_then ?_
        refine g_block ?_
        have hst1 := CI.start (by omega) hc (a := x10) (by rw [hc15, ← hzx13]; congr 1; omega) hzx10
        refine g_fin [0, 2, 3, 4, 5] [0] [] ⟨[(0, .v (.slice (some ⟨b, 0, none⟩) xs.length cap)), (2, .v (.slice none 0 0)), (3, .v (.int .i64 (k : Int))), (4, .v (.slice (some ⟨b, k * 2, none⟩) (xs.length - k) (cap - k))), (5, .v (.int .i64 1))], [(0, .cells b (FL chP xs tail) 53)], [], 1⟩ (by kernel_rfl) ?_
        refine g_while (ι := Nat) (fun q M19 s => ∃ (m : Nat) (ys : List (Int × Int)), s = ⟨[(0, .v (.slice (some ⟨b, 0, none⟩) xs.length cap)), (2, .v (.slice none 0 0)), (3, .v (.int .i64 (m : Int))), (4, .v (.slice (some ⟨b, k * 2, none⟩) (xs.length - k) (cap - k))), (5, .v (.int .i64 (q : Int)))], [(0, .cells b (FL chP ys tail) 53)], [], 1⟩ ∧ (1 ≤ q ∧ CI xs ys (k + q) m) ∧ (∀ a u, M6 a = some u → M19 a = some u)) (fun q => xs.length - k - q) 1 ⟨k, xs, rfl, ⟨Nat.le_refl _, hst1⟩, (fun _ _ h => h)⟩ ?_
        rintro q M19 _ ⟨m, ys, rfl, ⟨hq1, hI⟩, le20⟩
        refine g_seq ?_
        refine g_seq ?_
        refine g_region ?_
        refine g_exec 4 [0, 2, 3, 4, 5, 32] [0] [] (fun _ => ⟨[(0, .v (.slice (some ⟨b, 0, none⟩) xs.length cap)), (2, .v (.slice none 0 0)), (3, .v (.int .i64 (m : Int))), (4, .v (.slice (some ⟨b, k * 2, none⟩) (xs.length - k) (cap - k))), (5, .v (.int .i64 (q : Int))), (32, .v (.bool (decide ((q : Int) < (((xs.length - k) : Nat) : Int)))))], [(0, .cells b (FL chP ys tail) 53)], [], 1⟩) (fun _ => by kernel_rfl) fun _ => ?_
        refine g_end (by kernel_rfl) ?_
        refine n_then ?_
        refine g_cond (decide ((q : Int) < (((xs.length - k) : Nat) : Int))) (by kernel_rfl) (fun hc22 => ?_) (fun hc22 => ?_)
        · replace hc22 := of_decide_eq_true hc22
          have hI1 := hI.1
          have hI2 := hI.2.1
          have hI3 := hI.2.2.1
          refine g_skip ?_
          refine n_then ?_
          refine g_seq ?_
          refine g_block ?_
          refine g_seq ?_
          refine d_begin (by kernel_rfl) [0] [] 10 (by kernel_rfl) ?_
          refine dx_exec (fuel := 5) [0] [0, 1, 4, 5, 6] [0, 2, 3, 4, 5, 35, 36, 39, 41] [0] [] [true, true, false, false, true, true, true, false, false, false] ⟨[(0, .v (.slice (some ⟨b, 0, none⟩) xs.length cap)), (2, .v (.slice none 0 0)), (3, .v (.int .i64 (m : Int))), (4, .v (.slice (some ⟨b, k * 2, none⟩) (xs.length - k) (cap - k))), (5, .v (.int .i64 (q : Int))), (35, .v (.slice (some ⟨b, k * 2, none⟩) (xs.length - k) (cap - k))), (36, .v (.int .i64 (q : Int))), (39, .v (.slice (some ⟨b, k * 2, none⟩) (xs.length - k) (cap - k))), (41, .v (.int .i64 (IntKind.i64.wrap ((q : Int) - 1))))], [(0, .cells b (FL chP ys tail) 53)], [], 1⟩ (by kernel_rfl) (fun _ _ h => h) (by kernel_rfl) (by kernel_rfl) ?_ rfl
          refine dx_yld (fuel := 4) (i := 2) [0] [true, true, true, false, true, true, true, false, false, false] (by kernel_rfl) (fun _ _ h => h) (by kernel_rfl) (y_index (dst := some 37) (b := b) (o := k * 2) (len := (xs.length - k)) (kk := .i64) (ii := (q : Int)) (sz := 2) (by kernel_rfl) (by omega) (by omega)) (by kernel_rfl) (by kernel_rfl) ?_ rfl
          obtain ⟨x23, hx23⟩ : ∃ p, (ys)[(k + q)]? = some p := ⟨_, List.getElem?_eq_getElem (show (k + q) < (ys).length by (try simp only [List.length_set]); omega)⟩
          have hzx23 := hx23
          have oe24 : k * 2 + q * 2 = (k + q) * 2 := by omega
          refine dx_yldO (fuel := 3) (i := 3) [0] 0 (b := b) (t := 53) (cs := FL chP ys tail) (by rfl) [true, true, true, true, true, true, true, false, false, false] (by kernel_rfl) (fun _ _ h => h) (by kernel_rfl) (y_loads (dst := some 38) (b := b) (o := k * 2 + q * 2) (sz := 2) (by kernel_rfl) (cs := [.int .i64 x23.1, .int .i64 x23.2]) rfl (fun j v hj => ov_at (cs := FL chP ys tail) (o := k * 2 + q * 2 + j) (by rw [oe24]; exact FL_get (enc := chP) (sz := 2) (fun _ => rfl) hx23 j v hj))) (by kernel_rfl) (by kernel_rfl) ?_ rfl
          have hw25 := wrapP q (by omega) (by omega)
          refine dx_yld (fuel := 2) (i := 7) [0] [true, true, true, true, true, true, true, true, false, false] (by kernel_rfl) (fun _ _ h => h) (by kernel_rfl) (y_index (dst := some 42) (b := b) (o := k * 2) (len := (xs.length - k)) (kk := .i64) (ii := (IntKind.i64.wrap ((q : Int) - 1))) (sz := 2) (by kernel_rfl) (by omega) (by omega)) (by kernel_rfl) (by kernel_rfl) ?_ rfl
          obtain ⟨x26, hx26⟩ : ∃ p, (ys)[(k + (IntKind.i64.wrap ((q : Int) - 1)).toNat)]? = some p := ⟨_, List.getElem?_eq_getElem (show (k + (IntKind.i64.wrap ((q : Int) - 1)).toNat) < (ys).length by (try simp only [List.length_set]); omega)⟩
          have hzx26 := hx26
          have oe27 : k * 2 + ((IntKind.i64.wrap ((q : Int) - 1)).toNat) * 2 = (k + (IntKind.i64.wrap ((q : Int) - 1)).toNat) * 2 := by omega
          refine dx_yldO (fuel := 1) (i := 8) [0] 0 (b := b) (t := 53) (cs := FL chP ys tail) (by rfl) [true, true, true, true, true, true, true, true, true, false] (by kernel_rfl) (fun _ _ h => h) (by kernel_rfl) (y_loads (dst := some 43) (b := b) (o := k * 2 + ((IntKind.i64.wrap ((q : Int) - 1)).toNat) * 2) (sz := 2) (by kernel_rfl) (cs := [.int .i64 x26.1, .int .i64 x26.2]) rfl (fun j v hj => ov_at (cs := FL chP ys tail) (o := k * 2 + ((IntKind.i64.wrap ((q : Int) - 1)).toNat) * 2 + j) (by rw [oe27]; exact FL_get (enc := chP) (sz := 2) (fun _ => rfl) hx26 j v hj))) (by kernel_rfl) (by kernel_rfl) ?_ rfl
          refine dx_yld (fuel := 0) (i := 9) [0] [true, true, true, true, true, true, true, true, true, true] (by kernel_rfl) (fun _ _ h => h) (by kernel_rfl) (y_eq (dst := some 44) (r := !((x23.1 == x26.1) && ((x23.2 == x26.2) && true))) (by kernel_rfl)) (by kernel_rfl) (by kernel_rfl) ?_ rfl
          refine d_end (by kernel_rfl) ?_
          refine n_then ?_
          refine g_cond (!((x23.1 == x26.1) && ((x23.2 == x26.2) && true))) (by kernel_rfl) (fun hc28 => ?_) (fun hc28 => ?_)
          · replace hc28 := bnot_true hc28
            replace hc28 := beqP_f hc28
            refine g_seq ?_
            refine g_region ?_
            refine g_exec 4 [0, 2, 3, 4, 5, 45, 46, 47, 48] [0] [] (fun _ => ⟨[(0, .v (.slice (some ⟨b, 0, none⟩) xs.length cap)), (2, .v (.slice none 0 0)), (3, .v (.int .i64 (m : Int))), (4, .v (.slice (some ⟨b, k * 2, none⟩) (xs.length - k) (cap - k))), (5, .v (.int .i64 (q : Int))), (45, .v (.slice (some ⟨b, 0, none⟩) xs.length cap)), (46, .v (.int .i64 (m : Int))), (47, .v (.slice (some ⟨b, k * 2, none⟩) (xs.length - k) (cap - k))), (48, .v (.int .i64 (q : Int)))], [(0, .cells b (FL chP ys tail) 53)], [], 1⟩) (fun _ => by kernel_rfl) fun _ => ?_
            refine g_yld (y_index (dst := some 49) (b := b) (o := k * 2) (len := (xs.length - k)) (kk := .i64) (ii := (q : Int)) (sz := 2) (by kernel_rfl) (by omega) (by omega)) ?_
            obtain ⟨x31, hx31⟩ : ∃ p, (ys)[(k + q)]? = some p := ⟨_, List.getElem?_eq_getElem (show (k + q) < (ys).length by (try simp only [List.length_set]); omega)⟩
            have hzx31 := hx31
            have hne3 : x26 ≠ x31 := fun e => hc28 (by rw [show x23 = x31 from Option.some.inj (hzx23.symm.trans hzx31), ← e])
            have oe32 : k * 2 + q * 2 = (k + q) * 2 := by omega
            refine g_yldO 0 (b := b) (t := 53) (cs := FL chP ys tail) (by rfl) (y_loads (dst := some 50) (b := b) (o := k * 2 + q * 2) (sz := 2) (by kernel_rfl) (cs := [.int .i64 x31.1, .int .i64 x31.2]) rfl (fun j v hj => ov_at (cs := FL chP ys tail) (o := k * 2 + q * 2 + j) (by rw [oe32]; exact FL_get (enc := chP) (sz := 2) (fun _ => rfl) hx31 j v hj))) ?_
            refine g_yld (y_index (dst := some 51) (b := b) (o := 0) (len := xs.length) (kk := .i64) (ii := (m : Int)) (sz := 2) (by kernel_rfl) (by omega) (by omega)) ?_
            have oe35 : 0 + m * 2 = m * 2 := by omega
            refine g_storeA 0 (b := b) (o := 0 + m * 2) (sz := 2) (t := 53) (v := .agg #[.int .i64 x31.1, .int .i64 x31.2]) (cs := FL chP ys tail) (FL chP ((ys).set m x31) tail) (by kernel_rfl) (by rfl) [.int .i64 x31.1, .int .i64 x31.2] rfl rfl rfl (by rw [FL_len (enc := chP) (sz := 2) (fun _ => rfl)]; (try simp only [List.length_set]); omega) (by rw [oe35]; exact FL_set (enc := chP) (sz := 2) (fun _ => rfl) _ _ _ (by (try simp only [List.length_set]); omega) x31) ?_
            refine g_end (by kernel_rfl) ?_
            refine n_then ?_
            refine g_region ?_
            refine g_exec 3 [0, 2, 3, 4, 5] [0] [] (fun _ => ⟨[(0, .v (.slice (some ⟨b, 0, none⟩) xs.length cap)), (2, .v (.slice none 0 0)), (3, .v (.int .i64 (IntKind.i64.wrap ((m : Int) + 1)))), (4, .v (.slice (some ⟨b, k * 2, none⟩) (xs.length - k) (cap - k))), (5, .v (.int .i64 (q : Int)))], [(0, .cells b (FL chP ((ys).set m x31) tail) 53)], [], 1⟩) (fun _ => by kernel_rfl) fun _ => ?_
            refine g_end (by kernel_rfl) ?_
            refine n_block ?_
            refine n_then ?_
            refine g_region ?_
            refine g_exec 3 [0, 2, 3, 4, 5] [0] [] (fun _ => ⟨[(0, .v (.slice (some ⟨b, 0, none⟩) xs.length cap)), (2, .v (.slice none 0 0)), (3, .v (.int .i64 (IntKind.i64.wrap ((m : Int) + 1)))), (4, .v (.slice (some ⟨b, k * 2, none⟩) (xs.length - k) (cap - k))), (5, .v (.int .i64 (IntKind.i64.wrap ((q : Int) + 1))))], [(0, .cells b (FL chP ((ys).set m x31) tail) 53)], [], 1⟩) (fun _ => by kernel_rfl) fun _ => ?_
            refine g_end (by kernel_rfl) ?_
            refine n_then ?_
            refine g_val 3 (v := .int .i64 (IntKind.i64.wrap ((m : Int) + 1))) (.int .i64 ((m + 1 : Nat) : Int)) (by kernel_rfl) (by rw [wrapN m (by omega)]) ?_
            refine g_val 5 (v := .int .i64 (IntKind.i64.wrap ((q : Int) + 1))) (.int .i64 ((q + 1 : Nat) : Int)) (by kernel_rfl) (by rw [wrapN q (by omega)]) ?_
            refine g_fin [0, 2, 3, 4, 5] [0] [] ⟨[(0, .v (.slice (some ⟨b, 0, none⟩) xs.length cap)), (2, .v (.slice none 0 0)), (3, .v (.int .i64 ((m + 1 : Nat) : Int))), (4, .v (.slice (some ⟨b, k * 2, none⟩) (xs.length - k) (cap - k))), (5, .v (.int .i64 ((q + 1 : Nat) : Int)))], [(0, .cells b (FL chP ((ys).set m x31) tail) 53)], [], 1⟩ (by kernel_rfl) ?_
            exact g_again (q + 1) ⟨(m + 1), _, rfl, ⟨by omega, (by have := CI.ne hI (b := x31) (a := x26) hzx31 (by rw [← hzx26]; congr 1; omega) hne3; rw [show k + (q + 1) = k + q + 1 by omega]; exact this)⟩, (fun _ _ h => (le20 _ _ h))⟩ (by omega)
          · replace hc28 := bnot_false hc28
            replace hc28 := beqP_t hc28
            refine g_skip ?_
            refine n_block ?_
            refine n_then ?_
            refine g_region ?_
            refine g_exec 3 [0, 2, 3, 4, 5] [0] [] (fun _ => ⟨[(0, .v (.slice (some ⟨b, 0, none⟩) xs.length cap)), (2, .v (.slice none 0 0)), (3, .v (.int .i64 (m : Int))), (4, .v (.slice (some ⟨b, k * 2, none⟩) (xs.length - k) (cap - k))), (5, .v (.int .i64 (IntKind.i64.wrap ((q : Int) + 1))))], [(0, .cells b (FL chP ys tail) 53)], [], 1⟩) (fun _ => by kernel_rfl) fun _ => ?_
            refine g_end (by kernel_rfl) ?_
            refine n_then ?_
            refine g_val 5 (v := .int .i64 (IntKind.i64.wrap ((q : Int) + 1))) (.int .i64 ((q + 1 : Nat) : Int)) (by kernel_rfl) (by rw [wrapN q (by omega)]) ?_
            refine g_fin [0, 2, 3, 4, 5] [0] [] ⟨[(0, .v (.slice (some ⟨b, 0, none⟩) xs.length cap)), (2, .v (.slice none 0 0)), (3, .v (.int .i64 (m : Int))), (4, .v (.slice (some ⟨b, k * 2, none⟩) (xs.length - k) (cap - k))), (5, .v (.int .i64 ((q + 1 : Nat) : Int)))], [(0, .cells b (FL chP ys tail) 53)], [], 1⟩ (by kernel_rfl) ?_
            exact g_again (q + 1) ⟨m, _, rfl, ⟨by omega, (by have := CI.eq hI (a := x23) hzx23 (by rw [hc28, ← hzx26]; congr 1; omega); rw [show k + (q + 1) = k + q + 1 by omega]; exact this)⟩, (fun _ _ h => (le20 _ _ h))⟩ (by omega)
        · replace hc22 := of_decide_eq_false hc22
          have hI1 := hI.1
          have hI2 := hI.2.1
          have hI3 := hI.2.2.1
          refine g_exit ?_
          refine n_then_exit ?_
          refine n_then_exit ?_
          refine n_block_exit ?_
          refine n_then ?_
          refine g_seq ?_
          refine g_region ?_
          refine g_exec 2 [0, 2, 3, 54, 55] [0] [] (fun _ => ⟨[(0, .v (.slice (some ⟨b, 0, none⟩) xs.length cap)), (2, .v (.slice none 0 0)), (3, .v (.int .i64 (m : Int))), (54, .v (.slice (some ⟨b, 0, none⟩) xs.length cap)), (55, .v (.int .i64 (m : Int)))], [(0, .cells b (FL chP ys tail) 53)], [], 1⟩) (fun _ => by kernel_rfl) fun _ => ?_
          have hI1 := hI.1
          have hI2 := hI.2.1
          have hI3 := hI.2.2.1
          refine g_sliceA (dst := some 56) (A := some ⟨b, 0, none⟩) (len := xs.length) (cap := cap) (sz := 2) m xs.length (.slice (some ⟨b, m * 2, none⟩) (xs.length - m) (cap - m)) (by kernel_rfl) (.inl rfl) (.inr ⟨rfl, rfl⟩) (by omega) (by omega) (by intros; omega) (sliced_of (by omega)) ?_
          obtain ⟨tl, htl⟩ : ∃ t, t = zerosL [.int .i64 0, .int .i64 0] (xs.length - m) ++ (FL chP ys tail).drop (m * 2 + (zerosL [.int .i64 0, .int .i64 0] (xs.length - m)).length) := ⟨_, rfl⟩
          refine g_clearA 0 (b := b) (o := m * 2) (n := xs.length - m) (t := 53) (cs := FL chP ys tail) (zc := [.int .i64 0, .int .i64 0]) (FL chP (ys.take m) tl) (by kernel_rfl) (by rfl) (by rw [FL_len (enc := chP) (sz := 2) (fun _ => rfl)]; show m * 2 + (xs.length - m) * 2 ≤ ys.length * 2 + tail.length; omega) (by rw [htl]; exact FL_clear (enc := chP) (sz := 2) (fun _ => rfl) _ _ _ _ (by omega)) ?_
          refine g_end (by kernel_rfl) ?_
          refine n_then ?_
          refine g_seq ?_
          refine g_region ?_
          refine g_exec 2 [0, 2, 3, 57, 58] [0] [] (fun _ => ⟨[(0, .v (.slice (some ⟨b, 0, none⟩) xs.length cap)), (2, .v (.slice none 0 0)), (3, .v (.int .i64 (m : Int))), (57, .v (.slice (some ⟨b, 0, none⟩) xs.length cap)), (58, .v (.int .i64 (m : Int)))], [(0, .cells b (FL chP (ys.take m) tl) 53)], [], 1⟩) (fun _ => by kernel_rfl) fun _ => ?_
          refine g_sliceA (dst := some 59) (A := some ⟨b, 0, none⟩) (len := xs.length) (cap := cap) (sz := 2) 0 m (.slice (some ⟨b, 0, none⟩) m cap) (by kernel_rfl) (.inr ⟨rfl, rfl⟩) (.inl rfl) (by omega) (by omega) (by intros; omega) (sliced_0) ?_
          refine g_exec 1 [0, 2, 3] [0] [] (fun _ => ⟨[(0, .v (.slice (some ⟨b, 0, none⟩) xs.length cap)), (2, .v (.slice (some ⟨b, 0, none⟩) m cap)), (3, .v (.int .i64 (m : Int)))], [(0, .cells b (FL chP (ys.take m) tl) 53)], [], 1⟩) (fun _ => by kernel_rfl) fun _ => ?_
          refine g_end (by kernel_rfl) ?_
          refine n_then ?_
          refine g_ret ?_
          refine n_block_ret ?_
          refine n_then_ret ?_
          refine n_then_ret ?_
          refine n_block_ret ?_
          refine n_then_ret ?_
          have hcp := CI.done hI (by omega)
          have hlen : (ys.take m).length = m := by rw [List.length_take]; omega
          have htl2 : m * 2 + tl.length = xs.length * 2 + tail.length := by rw [htl, List.length_append, List.length_drop, FL_len (enc := chP) (sz := 2) (fun _ => rfl), zerosL_length]; simp only [List.length_cons, List.length_nil]; omega
          refine n_postL [0] [.cells b (FL chP (ys.take m) tl) 53] (by rfl) (.slice (some ⟨b, 0, none⟩) m cap) (by kernel_rfl) ⟨tl, ?_, ?_, ?_⟩ <;> rw [← hcp]
          · rw [hlen]
          · rw [hlen]; exact htl2
      · replace hc15 := beqP_f hc15
        refine g_skip ?_
        refine n_block ?_
        refine n_then ?_
        refine g_region ?_
        refine g_exec 3 [0, 2, 3] [0] [] (fun _ => ⟨[(0, .v (.slice (some ⟨b, 0, none⟩) xs.length cap)), (2, .v (.slice none 0 0)), (3, .v (.int .i64 (IntKind.i64.wrap ((k : Int) + 1))))], [(0, .cells b (FL chP xs tail) 53)], [], 1⟩) (fun _ => by kernel_rfl) fun _ => ?_
        refine g_end (by kernel_rfl) ?_
        refine n_then ?_
        refine g_val 3 (v := .int .i64 (IntKind.i64.wrap ((k : Int) + 1))) (.int .i64 ((k + 1 : Nat) : Int)) (by kernel_rfl) (by rw [wrapN k (by omega)]) ?_
        refine g_fin [0, 2, 3] [0] [] ⟨[(0, .v (.slice (some ⟨b, 0, none⟩) xs.length cap)), (2, .v (.slice none 0 0)), (3, .v (.int .i64 ((k + 1 : Nat) : Int)))], [(0, .cells b (FL chP xs tail) 53)], [], 1⟩ (by kernel_rfl) ?_
        exact g_again (k + 1) ⟨rfl, ⟨by omega, by omega, cpt_keep (by omega) hc (a := x13) (b := x10) (by rw [← hzx13]; congr 1; omega) hzx10 (fun e => hc15 e.symm)⟩, (fun _ _ h => (le7 _ _ h))⟩ (by omega)
    · replace hc9 := of_decide_eq_false hc9
      refine g_exit ?_
      refine n_then_exit ?_
      refine n_then_exit ?_
      refine n_block_exit ?_
      refine n_then ?_
      refine g_seq ?_
      refine g_region ?_
      refine g_exec 2 [2] [0] [] (fun _ => ⟨[(2, .v (.slice (some ⟨b, 0, none⟩) xs.length cap))], [(0, .cells b (FL chP xs tail) 53)], [], 1⟩) (fun _ => by kernel_rfl) fun _ => ?_
      refine g_end (by kernel_rfl) ?_
      refine n_then ?_
      refine g_ret ?_
      have hcp : cpt xs = xs := by have := hc; rw [show k = xs.length by omega, List.take_length] at this; exact this
      refine n_postL [0] [.cells b (FL chP xs tail) 53] (by rfl) (.slice (some ⟨b, 0, none⟩) xs.length cap) (by kernel_rfl) ⟨tail, ?_, ?_, ?_⟩ <;> rw [hcp]
end Go.Ch
