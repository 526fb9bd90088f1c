import Derived.Test.YtpnkncinmoogpaaGreatDoorTatomB
set_option linter.unusedVariables false
namespace Go.Ch
open Go Go.Eng Go.Proofs
def gatS (fv : Int → Int) (fb : Int → Bool) (l : List (Int × Int)) : List Int := cpt ((gat fv fb l).mergeSort fun x y => decide (x ≤ y))
theorem gatheredA_calls {M : Mem} {w : World} (hM : Sat M w) (xs : List (Int × Int)) (A : Option Addr) (c : Nat) (hrow : Row (flat chP) 2 M A xs) (hlen : xs.length ≤ 274877906944) (g : Nat) (hg : goes Tryz.prog g = true) (fv : Int → Int) (fb : Int → Bool) (hf : ∀ w M, Sat M w → ∀ a : Int, Ct Tryz.prog g [.int .i64 a] [] w M (fun v _ => v = .tuple #[.int .i64 (fv a), .bool (fb a)])) : Ct Tryz.prog 33 [.slice A xs.length c, .func (.func g) #[] (([] : List Value)).toArray] [] w M (SlV chI 1 (gatS fv fb xs)) := by
  refine enter (n := 45) Tryz.func33 rfl rfl _ (by kernel_rfl) hM ?_
  refine g_seq ?_
  refine g_region ?_
  refine g_exec 1 [0, 1, 4] [] [] (fun _ => ⟨[(0, .v (.slice A xs.length c)), (1, .v (.func (.func g) #[] [].toArray)), (4, .v (.slice none 0 0))], [], [], 0⟩) (fun _ => by kernel_rfl) fun _ => ?_
  refine g_end (by kernel_rfl) ?_
  refine n_then ?_
  refine g_seq ?_
  refine g_region ?_
  refine g_exec 1 [0, 1, 4, 5] [] [] (fun _ => ⟨[(0, .v (.slice A xs.length c)), (1, .v (.func (.func g) #[] [].toArray)), (4, .v (.slice none 0 0)), (5, .v (.slice none 0 0))], [], [], 0⟩) (fun _ => by kernel_rfl) fun _ => ?_
  refine g_end (by kernel_rfl) ?_
  refine n_then ?_
  refine g_seq ?_
  refine g_seq ?_
  refine g_region ?_
  refine g_exec 3 [1, 4, 5, 12, 13, 14] [] [] (fun _ => ⟨[(1, .v (.func (.func g) #[] [].toArray)), (4, .v (.slice none 0 0)), (5, .v (.slice none 0 0)), (12, .v (.slice A xs.length c)), (13, .v (.int .i64 ((xs.length : Nat) : Int))), (14, .v (.int .i64 0))], [], [], 0⟩) (fun _ => by kernel_rfl) fun _ => ?_
  refine g_end (by kernel_rfl) ?_
  refine n_then ?_
  refine g_block ?_
  refine g_newrow 0 24 1 rfl ?_
  refine g_fin [1, 4, 5, 12, 13, 14] [] [0] ⟨[(1, .v (.func (.func g) #[] [].toArray)), (4, .v (.slice none 0 0)), (5, .v (.slice none 0 0)), (12, .v (.slice A xs.length c)), (13, .v (.int .i64 ((xs.length : Nat) : Int))), (14, .v (.int .i64 0))], [], [(0, ⟨.slice none 0 0, 24, 1, 0, []⟩)], 0⟩ (by kernel_rfl) ?_
  refine g_while (ι := Nat) (fun k M4 s => ∃ (v : Value) (n : Nat) (cs : List Value), s = ⟨[(1, .v (.func (.func g) #[] [].toArray)), (4, .v (.slice none 0 0)), (5, .v (v)), (12, .v (.slice A xs.length c)), (13, .v (.int .i64 ((xs.length : Nat) : Int))), (14, .v (.int .i64 (k : Int)))], [], [(0, ⟨v, 24, 1, n, cs⟩)], 0⟩ ∧ (k ≤ xs.length ∧ n = (gat fv fb (xs.take k)).length ∧ cs = (gat fv fb (xs.take k)).flatMap chI) ∧ (∀ a u, M a = some u → M4 a = some u)) (fun k => xs.length - k) 0 ⟨_, _, _, rfl, ⟨Nat.zero_le _, rfl, rfl⟩, (fun _ _ h => h)⟩ ?_
  rintro k M4 _ ⟨v, n, cs, rfl, ⟨hk, hn, hcs⟩, le5⟩
  refine g_seq ?_
  refine g_region ?_
  refine g_exec 1 [1, 4, 5, 12, 13, 14, 15] [] [0] (fun _ => ⟨[(1, .v (.func (.func g) #[] [].toArray)), (4, .v (.slice none 0 0)), (5, .v (v)), (12, .v (.slice A xs.length c)), (13, .v (.int .i64 ((xs.length : Nat) : Int))), (14, .v (.int .i64 (k : Int))), (15, .v (.bool (decide ((k : Int) < ((xs.length : Nat) : Int)))))], [], [(0, ⟨v, 24, 1, n, cs⟩)], 0⟩) (fun _ => by kernel_rfl) fun _ => ?_
  refine g_end (by kernel_rfl) ?_
  refine n_then ?_
  refine g_seq ?_
  refine g_cond (decide ((k : Int) < ((xs.length : Nat) : Int))) (by kernel_rfl) (fun hc7 => ?_) (fun hc7 => ?_)
  · replace hc7 := of_decide_eq_true hc7
    refine g_skip ?_
    refine n_then ?_
    refine g_seq ?_
    refine g_block ?_
    refine g_seq ?_
    refine g_region ?_
    obtain ⟨x11, hx11⟩ : ∃ p, xs[k]? = some p := ⟨_, List.getElem?_eq_getElem (show k < xs.length by omega)⟩
    obtain ⟨b9, o10, _, rfl, rfl, _, heb9⟩ := hrow.at hx11
    refine g_yld (y_index (dst := some 16) (b := b9) (o := o10) (len := xs.length) (kk := .i64) (ii := (k : Int)) (sz := 2) (by kernel_rfl) (by omega) (by omega)) ?_
    refine g_yld (y_loads (dst := some 17) (b := b9) (o := o10 + k * 2) (sz := 2) (by kernel_rfl) (cs := [.int .i64 x11.1, .int .i64 x11.2]) rfl (fun j v hj => le5 _ _ (heb9 j v hj))) ?_
    refine g_exec 2 [1, 4, 5, 7, 12, 13, 14] [0] [0] (fun f13 => ⟨[(1, .v (.func (.func g) #[] [].toArray)), (4, .v (.slice none 0 0)), (5, .v (v)), (7, .l 0 (f13 2) 0), (12, .v (.slice (some ⟨b9, o10, none⟩) xs.length c)), (13, .v (.int .i64 ((xs.length : Nat) : Int))), (14, .v (.int .i64 (k : Int)))], [(0, .cells (f13 2) [.int .i64 x11.1, .int .i64 x11.2] 53)], [(0, ⟨v, 24, 1, n, cs⟩)], 1⟩) (fun _ => by kernel_rfl) fun f13 => ?_
    refine g_end (by kernel_rfl) ?_
    refine n_then ?_
    refine g_seq ?_
    refine g_region ?_
    refine g_exec 7 [1, 4, 5, 12, 13, 14, 22, 23, 24] [1] [0] (fun f14 => ⟨[(1, .v (.func (.func g) #[] [].toArray)), (4, .v (.slice none 0 0)), (5, .v (v)), (12, .v (.slice (some ⟨b9, o10, none⟩) xs.length c)), (13, .v (.int .i64 ((xs.length : Nat) : Int))), (14, .v (.int .i64 (k : Int))), (22, .v (.slice (some ⟨(f14 4), 0, none⟩) 2 2)), (23, .v (.int .i64 2)), (24, .v (.int .i64 0))], [(1, .cells (f14 4) [.int .i64 x11.1, .int .i64 x11.2] 24)], [(0, ⟨v, 24, 1, n, cs⟩)], 2⟩) (fun _ => by kernel_rfl) fun f14 => ?_
    refine g_end (by kernel_rfl) ?_
    refine n_then ?_
    refine g_block ?_
    refine g_pubL 1 (b := (f14 4)) (t := 24) (cs := [.int .i64 x11.1, .int .i64 x11.2]) (by rfl) ?_
    intro M15 le16 hp17
    have hlit := row_pubL (enc := chI) (sz := 1) (fun _ => rfl) [x11.1, x11.2] [] hp17
    refine g_fin [1, 4, 5, 12, 13, 14, 22, 23, 24] [] [0] ⟨[(1, .v (.func (.func g) #[] [].toArray)), (4, .v (.slice none 0 0)), (5, .v (v)), (12, .v (.slice (some ⟨b9, o10, none⟩) xs.length c)), (13, .v (.int .i64 ((xs.length : Nat) : Int))), (14, .v (.int .i64 (k : Int))), (22, .v (.slice (some ⟨(f14 4), 0, none⟩) 2 2)), (23, .v (.int .i64 2)), (24, .v (.int .i64 0))], [], [(0, ⟨v, 24, 1, n, cs⟩)], 0⟩ (by kernel_rfl) ?_
    refine g_while (ι := Nat) (fun q M18 s => ∃ (v2 : Value) (n2 : Nat) (cs2 : List Value), s = ⟨[(1, .v (.func (.func g) #[] [].toArray)), (4, .v (.slice none 0 0)), (5, .v (v2)), (12, .v (.slice (some ⟨b9, o10, none⟩) xs.length c)), (13, .v (.int .i64 ((xs.length : Nat) : Int))), (14, .v (.int .i64 (k : Int))), (22, .v (.slice (some ⟨(f14 4), 0, none⟩) 2 2)), (23, .v (.int .i64 2)), (24, .v (.int .i64 (q : Int)))], [], [(0, ⟨v2, 24, 1, n2, cs2⟩)], 0⟩ ∧ (q ≤ 2 ∧ n2 = (gat fv fb (xs.take k) ++ gatA fv fb ([x11.1, x11.2].take q)).length ∧ cs2 = (gat fv fb (xs.take k) ++ gatA fv fb ([x11.1, x11.2].take q)).flatMap chI) ∧ (∀ a u, M15 a = some u → M18 a = some u)) (fun q => 2 - q) 0 ⟨_, _, _, rfl, ⟨Nat.zero_le _, by rw [hn]; simp [gatA], by rw [hcs]; simp [gatA]⟩, (fun _ _ h => h)⟩ ?_
    rintro q M18 _ ⟨v2, n2, cs2, rfl, ⟨hq, hn2, hcs2⟩, le19⟩
    refine g_seq ?_
    refine g_region ?_
    refine g_exec 1 [1, 4, 5, 12, 13, 14, 22, 23, 24, 25] [] [0] (fun _ => ⟨[(1, .v (.func (.func g) #[] [].toArray)), (4, .v (.slice none 0 0)), (5, .v (v2)), (12, .v (.slice (some ⟨b9, o10, none⟩) xs.length c)), (13, .v (.int .i64 ((xs.length : Nat) : Int))), (14, .v (.int .i64 (k : Int))), (22, .v (.slice (some ⟨(f14 4), 0, none⟩) 2 2)), (23, .v (.int .i64 2)), (24, .v (.int .i64 (q : Int))), (25, .v (.bool (decide ((q : Int) < 2))))], [], [(0, ⟨v2, 24, 1, n2, cs2⟩)], 0⟩) (fun _ => by kernel_rfl) fun _ => ?_
    refine g_end (by kernel_rfl) ?_
    refine n_then ?_
    refine g_seq ?_
    refine g_cond (decide ((q : Int) < 2)) (by kernel_rfl) (fun hc21 => ?_) (fun hc21 => ?_)
    · replace hc21 := of_decide_eq_true hc21
      have hbn := gat_bound hn2
      refine g_skip ?_
      refine n_then ?_
      refine g_seq ?_
      refine g_block ?_
      refine g_seq ?_
      refine g_region ?_
      obtain ⟨y25, hy25⟩ : ∃ p, [x11.1, x11.2][q]? = some p := ⟨_, List.getElem?_eq_getElem (show q < 2 by omega)⟩
      obtain ⟨_, rfl, _, hey25⟩ := Row.atc hlit hy25
      refine g_yld (y_index (dst := some 26) (b := (f14 4)) (o := 0) (len := 2) (kk := .i64) (ii := (q : Int)) (sz := 1) (by kernel_rfl) (by omega) (by omega)) ?_
      refine g_yld (y_load1 (dst := some 27) (ad := ⟨(f14 4), 0 + q * 1, none⟩) (sz := 1) (by kernel_rfl) (v := .int .i64 y25) (le19 _ _ (hey25 0 _ rfl))) ?_
      refine g_exec 1 [1, 4, 5, 9, 12, 13, 14, 22, 23, 24] [] [0] (fun _ => ⟨[(1, .v (.func (.func g) #[] [].toArray)), (4, .v (.slice none 0 0)), (5, .v (v2)), (9, .v (.int .i64 y25)), (12, .v (.slice (some ⟨b9, o10, none⟩) xs.length c)), (13, .v (.int .i64 ((xs.length : Nat) : Int))), (14, .v (.int .i64 (k : Int))), (22, .v (.slice (some ⟨(f14 4), 0, none⟩) 2 2)), (23, .v (.int .i64 2)), (24, .v (.int .i64 (q : Int)))], [], [(0, ⟨v2, 24, 1, n2, cs2⟩)], 0⟩) (fun _ => by kernel_rfl) fun _ => ?_
      refine g_end (by kernel_rfl) ?_
      refine n_then ?_
      refine g_seq ?_
      refine g_region ?_
      refine g_exec 2 [1, 4, 5, 12, 13, 14, 22, 23, 24, 29, 30] [] [0] (fun _ => ⟨[(1, .v (.func (.func g) #[] [].toArray)), (4, .v (.slice none 0 0)), (5, .v (v2)), (12, .v (.slice (some ⟨b9, o10, none⟩) xs.length c)), (13, .v (.int .i64 ((xs.length : Nat) : Int))), (14, .v (.int .i64 (k : Int))), (22, .v (.slice (some ⟨(f14 4), 0, none⟩) 2 2)), (23, .v (.int .i64 2)), (24, .v (.int .i64 (q : Int))), (29, .v (.func (.func g) #[] [].toArray)), (30, .v (.int .i64 y25))], [], [(0, ⟨v2, 24, 1, n2, cs2⟩)], 0⟩) (fun _ => by kernel_rfl) fun _ => ?_
      refine g_call (dst := some 31) (g := g) (args := ([.int .i64 y25] ++ [])) (by kernel_rfl) hg (fun v _ => v = .tuple #[.int .i64 (fv y25), .bool (fb y25)]) (by intro w hst; exact hf _ _ hst.sat y25) ?_
      rintro _ M29 le30 rfl
      refine g_exec 5 [1, 4, 5, 10, 11, 12, 13, 14, 22, 23, 24] [] [0] (fun _ => ⟨[(1, .v (.func (.func g) #[] [].toArray)), (4, .v (.slice none 0 0)), (5, .v (v2)), (10, .v (.int .i64 (fv y25))), (11, .v (.bool (fb y25))), (12, .v (.slice (some ⟨b9, o10, none⟩) xs.length c)), (13, .v (.int .i64 ((xs.length : Nat) : Int))), (14, .v (.int .i64 (k : Int))), (22, .v (.slice (some ⟨(f14 4), 0, none⟩) 2 2)), (23, .v (.int .i64 2)), (24, .v (.int .i64 (q : Int)))], [], [(0, ⟨v2, 24, 1, n2, cs2⟩)], 0⟩) (fun _ => by kernel_rfl) fun _ => ?_
      refine g_end (by kernel_rfl) ?_
      refine n_then ?_
      refine g_seq ?_
      refine g_region ?_
      refine g_exec 1 [1, 4, 5, 10, 12, 13, 14, 22, 23, 24, 34] [] [0] (fun _ => ⟨[(1, .v (.func (.func g) #[] [].toArray)), (4, .v (.slice none 0 0)), (5, .v (v2)), (10, .v (.int .i64 (fv y25))), (12, .v (.slice (some ⟨b9, o10, none⟩) xs.length c)), (13, .v (.int .i64 ((xs.length : Nat) : Int))), (14, .v (.int .i64 (k : Int))), (22, .v (.slice (some ⟨(f14 4), 0, none⟩) 2 2)), (23, .v (.int .i64 2)), (24, .v (.int .i64 (q : Int))), (34, .v (.bool (fb y25)))], [], [(0, ⟨v2, 24, 1, n2, cs2⟩)], 0⟩) (fun _ => by kernel_rfl) fun _ => ?_
      refine g_end (by kernel_rfl) ?_
      refine n_then ?_
      refine g_cond ((fb y25)) (by kernel_rfl) (fun hc33 => ?_) (fun hc33 => ?_)
      · refine g_region ?_
        refine g_exec 3 [1, 4, 5, 12, 13, 14, 22, 23, 24, 35, 37] [0] [0] (fun f34 => ⟨[(1, .v (.func (.func g) #[] [].toArray)), (4, .v (.slice none 0 0)), (5, .v (v2)), (12, .v (.slice (some ⟨b9, o10, none⟩) xs.length c)), (13, .v (.int .i64 ((xs.length : Nat) : Int))), (14, .v (.int .i64 (k : Int))), (22, .v (.slice (some ⟨(f14 4), 0, none⟩) 2 2)), (23, .v (.int .i64 2)), (24, .v (.int .i64 (q : Int))), (35, .v (v2)), (37, .v (.slice (some ⟨(f34 2), 0, none⟩) 1 1))], [(0, .cells (f34 2) [.int .i64 (fv y25)] 24)], [(0, ⟨v2, 24, 1, n2, cs2⟩)], 1⟩) (fun _ => by kernel_rfl) fun f34 => ?_
        refine g_append (dst := some 38) 0 0 1 (u := v2) (row := ⟨v2, 24, 1, n2, cs2⟩) (b := (f34 2)) (cs := [.int .i64 (fv y25)]) (bytes := 8) (by kernel_rfl) rfl rfl (by show (n2 + 1) * 8 ≤ 140737488355328; omega) (by show n2 + 1 ≤ 140737488355328; omega) ?_
        intro v35
        refine g_exec 1 [1, 4, 5, 12, 13, 14, 22, 23, 24] [] [0] (fun _ => ⟨[(1, .v (.func (.func g) #[] [].toArray)), (4, .v (.slice none 0 0)), (5, .v (v35)), (12, .v (.slice (some ⟨b9, o10, none⟩) xs.length c)), (13, .v (.int .i64 ((xs.length : Nat) : Int))), (14, .v (.int .i64 (k : Int))), (22, .v (.slice (some ⟨(f14 4), 0, none⟩) 2 2)), (23, .v (.int .i64 2)), (24, .v (.int .i64 (q : Int)))], [], [(0, ⟨v35, 24, 1, n2 + 1, cs2 ++ [.int .i64 (fv y25)]⟩)], 0⟩) (fun _ => by kernel_rfl) fun _ => ?_
        refine g_end (by kernel_rfl) ?_
        refine n_block ?_
        refine n_then ?_
        refine g_region ?_
        refine g_exec 2 [1, 4, 5, 12, 13, 14, 22, 23, 24] [] [0] (fun _ => ⟨[(1, .v (.func (.func g) #[] [].toArray)), (4, .v (.slice none 0 0)), (5, .v (v35)), (12, .v (.slice (some ⟨b9, o10, none⟩) xs.length c)), (13, .v (.int .i64 ((xs.length : Nat) : Int))), (14, .v (.int .i64 (k : Int))), (22, .v (.slice (some ⟨(f14 4), 0, none⟩) 2 2)), (23, .v (.int .i64 2)), (24, .v (.int .i64 (IntKind.i64.wrap ((q : Int) + 1))))], [], [(0, ⟨v35, 24, 1, n2 + 1, cs2 ++ [.int .i64 (fv y25)]⟩)], 0⟩) (fun _ => by kernel_rfl) fun _ => ?_
        refine g_end (by kernel_rfl) ?_
        refine n_then ?_
        refine g_val 24 (v := .int .i64 (IntKind.i64.wrap ((q : Int) + 1))) (.int .i64 ((q + 1 : Nat) : Int)) (by kernel_rfl) (by rw [wrapN q (by omega)]) ?_
        refine g_fin [1, 4, 5, 12, 13, 14, 22, 23, 24] [] [0] ⟨[(1, .v (.func (.func g) #[] [].toArray)), (4, .v (.slice none 0 0)), (5, .v (v35)), (12, .v (.slice (some ⟨b9, o10, none⟩) xs.length c)), (13, .v (.int .i64 ((xs.length : Nat) : Int))), (14, .v (.int .i64 (k : Int))), (22, .v (.slice (some ⟨(f14 4), 0, none⟩) 2 2)), (23, .v (.int .i64 2)), (24, .v (.int .i64 ((q + 1 : Nat) : Int)))], [], [(0, ⟨v35, 24, 1, n2 + 1, cs2 ++ [.int .i64 (fv y25)]⟩)], 0⟩ (by kernel_rfl) ?_
        exact g_again (q + 1) ⟨_, _, _, rfl, ⟨by omega, by rw [gatA_t hy25 hc33, hn2]; simp only [List.length_append, List.length_cons, List.length_nil]; omega, by rw [gatA_t hy25 hc33, hcs2]; simp only [List.flatMap_append, List.append_assoc]; rfl⟩, (fun _ _ h => (le30 _ _ (le19 _ _ h)))⟩ (by omega)
      · refine g_skip ?_
        refine n_block ?_
        refine n_then ?_
        refine g_region ?_
        refine g_exec 2 [1, 4, 5, 12, 13, 14, 22, 23, 24] [] [0] (fun _ => ⟨[(1, .v (.func (.func g) #[] [].toArray)), (4, .v (.slice none 0 0)), (5, .v (v2)), (12, .v (.slice (some ⟨b9, o10, none⟩) xs.length c)), (13, .v (.int .i64 ((xs.length : Nat) : Int))), (14, .v (.int .i64 (k : Int))), (22, .v (.slice (some ⟨(f14 4), 0, none⟩) 2 2)), (23, .v (.int .i64 2)), (24, .v (.int .i64 (IntKind.i64.wrap ((q : Int) + 1))))], [], [(0, ⟨v2, 24, 1, n2, cs2⟩)], 0⟩) (fun _ => by kernel_rfl) fun _ => ?_
        refine g_end (by kernel_rfl) ?_
        refine n_then ?_
        refine g_val 24 (v := .int .i64 (IntKind.i64.wrap ((q : Int) + 1))) (.int .i64 ((q + 1 : Nat) : Int)) (by kernel_rfl) (by rw [wrapN q (by omega)]) ?_
        refine g_fin [1, 4, 5, 12, 13, 14, 22, 23, 24] [] [0] ⟨[(1, .v (.func (.func g) #[] [].toArray)), (4, .v (.slice none 0 0)), (5, .v (v2)), (12, .v (.slice (some ⟨b9, o10, none⟩) xs.length c)), (13, .v (.int .i64 ((xs.length : Nat) : Int))), (14, .v (.int .i64 (k : Int))), (22, .v (.slice (some ⟨(f14 4), 0, none⟩) 2 2)), (23, .v (.int .i64 2)), (24, .v (.int .i64 ((q + 1 : Nat) : Int)))], [], [(0, ⟨v2, 24, 1, n2, cs2⟩)], 0⟩ (by kernel_rfl) ?_
        exact g_again (q + 1) ⟨_, _, _, rfl, ⟨by omega, by rw [gatA_f hy25 hc33]; exact hn2, by rw [gatA_f hy25 hc33]; exact hcs2⟩, (fun _ _ h => (le30 _ _ (le19 _ _ h)))⟩ (by omega)
    · replace hc21 := of_decide_eq_false hc21
      have hbn := gat_bound hn2
      refine g_exit ?_
      refine n_then_exit ?_
      refine n_then_exit ?_
      refine n_block_exit ?_
      refine n_block ?_
      refine n_then ?_
      refine g_region ?_
      refine g_exec 2 [1, 4, 5, 12, 13, 14] [] [0] (fun _ => ⟨[(1, .v (.func (.func g) #[] [].toArray)), (4, .v (.slice none 0 0)), (5, .v (v2)), (12, .v (.slice (some ⟨b9, o10, none⟩) xs.length c)), (13, .v (.int .i64 ((xs.length : Nat) : Int))), (14, .v (.int .i64 (IntKind.i64.wrap ((k : Int) + 1))))], [], [(0, ⟨v2, 24, 1, n2, cs2⟩)], 0⟩) (fun _ => by kernel_rfl) fun _ => ?_
      refine g_end (by kernel_rfl) ?_
      refine n_then ?_
      refine g_val 14 (v := .int .i64 (IntKind.i64.wrap ((k : Int) + 1))) (.int .i64 ((k + 1 : Nat) : Int)) (by kernel_rfl) (by rw [wrapN k (by omega)]) ?_
      refine g_fin [1, 4, 5, 12, 13, 14] [] [0] ⟨[(1, .v (.func (.func g) #[] [].toArray)), (4, .v (.slice none 0 0)), (5, .v (v2)), (12, .v (.slice (some ⟨b9, o10, none⟩) xs.length c)), (13, .v (.int .i64 ((xs.length : Nat) : Int))), (14, .v (.int .i64 ((k + 1 : Nat) : Int)))], [], [(0, ⟨v2, 24, 1, n2, cs2⟩)], 0⟩ (by kernel_rfl) ?_
      exact g_again (k + 1) ⟨_, _, _, rfl, ⟨by omega, by rw [gat_snoc hx11, hn2, show q = 2 by omega]; rfl, by rw [gat_snoc hx11, hcs2, show q = 2 by omega]; rfl⟩, (fun _ _ h => (le19 _ _ (le16 _ _ (le5 _ _ h))))⟩ (by omega)
  · replace hc7 := of_decide_eq_false hc7
    refine g_exit ?_
    refine n_then_exit ?_
    refine n_then_exit ?_
    refine n_block_exit ?_
    refine n_then ?_
    refine g_seq ?_
    refine g_region ?_
    refine g_exec 1 [4, 5, 41] [] [0] (fun _ => ⟨[(4, .v (.slice none 0 0)), (5, .v (v)), (41, .v (v))], [], [(0, ⟨v, 24, 1, n, cs⟩)], 0⟩) (fun _ => by kernel_rfl) fun _ => ?_
    have hkk : k = xs.length := by omega
    rw [hkk, List.take_length] at hn hcs
    subst hn hcs
    have hzl := gat_len fv fb xs
    refine g_openR 0 (row := ⟨v, 24, 1, (gat fv fb xs).length, (gat fv fb xs).flatMap chI⟩) (by rfl) (by simp) (fun hv hn0 hc0 => ?_) (fun b cap tail hv hcap _ => ?_)
    · have hv : v = .slice none 0 0 := hv
      have hz0 : (gat fv fb xs) = [] := List.eq_nil_of_length_eq_zero hn0
      refine g_val 5 (v := v) (.slice none 0 0) (by kernel_rfl) hv ?_
      refine g_val 41 (v := v) (.slice none 0 0) (by kernel_rfl) hv ?_
      refine g_call (dst := some 42) (g := 53) (args := [.slice none 0 0]) (by kernel_rfl) (by kernel_rfl) (fun v _ => v = .tuple #[]) (by intro w hst; exact sortA_nil hst.sat) ?_
      rintro _ M42 le43 rfl
      refine g_end (by kernel_rfl) ?_
      refine n_then ?_
      refine g_seq ?_
      refine g_region ?_
      refine g_exec 1 [4, 43] [] [] (fun _ => ⟨[(4, .v (.slice none 0 0)), (43, .v (.slice none 0 0))], [], [], 0⟩) (fun _ => by kernel_rfl) fun _ => ?_
      refine g_call (dst := some 44) (g := 54) (args := [.slice none 0 0]) (by kernel_rfl) (by kernel_rfl) (fun v _ => v = .slice none 0 0) (by intro w hst; exact compactA_nil hst.sat 0) ?_
      rintro _ M46 le47 rfl
      refine g_exec 1 [4] [] [] (fun _ => ⟨[(4, .v (.slice none 0 0))], [], [], 0⟩) (fun _ => by kernel_rfl) fun _ => ?_
      refine g_end (by kernel_rfl) ?_
      refine n_then ?_
      refine g_ret ?_
      exact n_post (.slice none 0 0) (by kernel_rfl) (by rw [gatS, hz0, List.mergeSort_nil]; exact ⟨none, 0, rfl, Nat.le_refl _, Row.nil⟩)
    · have hv : v = .slice (some ⟨b, 0, none⟩) (gat fv fb xs).length cap := hv
      have hcap : (gat fv fb xs).length ≤ cap := hcap
      refine g_val 5 (v := v) (.slice (some ⟨b, 0, none⟩) (gat fv fb xs).length cap) (by kernel_rfl) hv ?_
      refine g_val 41 (v := v) (.slice (some ⟨b, 0, none⟩) (gat fv fb xs).length cap) (by kernel_rfl) hv ?_
      refine g_callL (dst := some 42) (g := 53) (args := [.slice (some ⟨b, 0, none⟩) ((gat fv fb xs).length) cap]) [0] [.cells b (FL chI (gat fv fb xs) tail) 24] (by kernel_rfl) (by kernel_rfl) (by kernel_rfl) (SortPost 24 b (gat fv fb xs) tail) (by intro w hst hLe; exact sortA_calls hst.sat (gat fv fb xs) tail b cap (by omega) hLe) ?_
      rintro v M50 Lo le51 (⟨rfl, rfl⟩)
      have hml := List.length_mergeSort (le := fun x y => decide (x ≤ y)) (gat fv fb xs)
      refine g_val 5 (v := .slice (some ⟨b, 0, none⟩) (gat fv fb xs).length cap) (.slice (some ⟨b, 0, none⟩) ((gat fv fb xs).mergeSort fun x y => decide (x ≤ y)).length cap) (by kernel_rfl) (by rw [hml]) ?_
      refine g_end (by kernel_rfl) ?_
      refine n_then ?_
      refine g_seq ?_
      refine g_region ?_
      refine g_exec 1 [4, 43] [1] [] (fun _ => ⟨[(4, .v (.slice none 0 0)), (43, .v (.slice (some ⟨b, 0, none⟩) (((gat fv fb xs).mergeSort fun x y => decide (x ≤ y)).length) cap))], [(1, .cells b (FL chI ((gat fv fb xs).mergeSort fun x y => decide (x ≤ y)) tail) 24)], [], 2⟩) (fun _ => by kernel_rfl) fun _ => ?_
      refine g_callL (dst := some 44) (g := 54) (args := [.slice (some ⟨b, 0, none⟩) (((gat fv fb xs).mergeSort fun x y => decide (x ≤ y)).length) cap]) [1] [.cells b (FL chI ((gat fv fb xs).mergeSort fun x y => decide (x ≤ y)) tail) 24] (by kernel_rfl) (by kernel_rfl) (by kernel_rfl) (fun v M' Lo => ∃ tl', v = .slice (some ⟨b, 0, none⟩) (cpt ((gat fv fb xs).mergeSort fun x y => decide (x ≤ y))).length cap ∧ Lo = [.cells b (FL chI (cpt ((gat fv fb xs).mergeSort fun x y => decide (x ≤ y))) tl') 24] ∧ (cpt ((gat fv fb xs).mergeSort fun x y => decide (x ≤ y))).length * 1 + tl'.length = ((gat fv fb xs).mergeSort fun x y => decide (x ≤ y)).length * 1 + tail.length) (by intro w hst hLe; exact compactA_calls hst.sat ((gat fv fb xs).mergeSort fun x y => decide (x ≤ y)) tail b cap (by omega) (by omega) hLe) ?_
      rintro v M54 Lo le55 (⟨tl', rfl, rfl, _⟩)
      refine g_exec 1 [4] [2] [] (fun _ => ⟨[(4, .v (.slice (some ⟨b, 0, none⟩) ((cpt ((gat fv fb xs).mergeSort fun x y => decide (x ≤ y))).length) cap))], [(2, .cells b (FL chI (cpt ((gat fv fb xs).mergeSort fun x y => decide (x ≤ y))) tl') 24)], [], 3⟩) (fun _ => by kernel_rfl) fun _ => ?_
      refine g_end (by kernel_rfl) ?_
      refine n_then ?_
      refine g_ret ?_
      refine g_pubL 2 (b := b) (t := 24) (cs := FL chI (cpt ((gat fv fb xs).mergeSort fun x y => decide (x ≤ y))) tl') (by rfl) ?_
      intro M57 le58 hp59
      have hcl := cpt_length_le ((gat fv fb xs).mergeSort fun x y => decide (x ≤ y))
      exact n_post (.slice (some ⟨b, 0, none⟩) ((cpt ((gat fv fb xs).mergeSort fun x y => decide (x ≤ y))).length) cap) (by kernel_rfl) ⟨_, cap, rfl, by rw [gatS]; omega, row_pubL (enc := chI) (sz := 1) (fun _ => rfl) (cpt ((gat fv fb xs).mergeSort fun x y => decide (x ≤ y))) tl' hp59⟩
theorem gatheredI_calls {M : Mem} {w : World} (hM : Sat M w) (xs : List (Int × Int)) (A : Option Addr) (c : Nat) (hrow : Row (flat chP) 2 M A xs) (hlen : xs.length ≤ 274877906944) (g : Nat) (hg : goes Tryz.prog g = true) (fv : Int → Int) (fb : Int → Bool) (hf : ∀ w M, Sat M w → ∀ a : Int, Ct Tryz.prog g [.int .i64 a] [] w M (fun v _ => v = .tuple #[.int .i64 (fv a), .bool (fb a)])) : Ct Tryz.prog 36 [.slice A xs.length c, .func (.func g) #[] (([] : List Value)).toArray] [] w M (SlV chI 1 (gatS fv fb xs)) := by
  refine enter (n := 45) Tryz.func36 rfl rfl _ (by kernel_rfl) hM ?_
  refine g_seq ?_
  refine g_region ?_
  refine g_exec 1 [0, 1, 4] [] [] (fun _ => ⟨[(0, .v (.slice A xs.length c)), (1, .v (.func (.func g) #[] [].toArray)), (4, .v (.slice none 0 0))], [], [], 0⟩) (fun _ => by kernel_rfl) fun _ => ?_
  refine g_end (by kernel_rfl) ?_
  refine n_then ?_
  refine g_seq ?_
  refine g_region ?_
  refine g_exec 1 [0, 1, 4, 5] [] [] (fun _ => ⟨[(0, .v (.slice A xs.length c)), (1, .v (.func (.func g) #[] [].toArray)), (4, .v (.slice none 0 0)), (5, .v (.slice none 0 0))], [], [], 0⟩) (fun _ => by kernel_rfl) fun _ => ?_
  refine g_end (by kernel_rfl) ?_
  refine n_then ?_
  refine g_seq ?_
  refine g_seq ?_
  refine g_region ?_
  refine g_exec 3 [1, 4, 5, 12, 13, 14] [] [] (fun _ => ⟨[(1, .v (.func (.func g) #[] [].toArray)), (4, .v (.slice none 0 0)), (5, .v (.slice none 0 0)), (12, .v (.slice A xs.length c)), (13, .v (.int .i64 ((xs.length : Nat) : Int))), (14, .v (.int .i64 0))], [], [], 0⟩) (fun _ => by kernel_rfl) fun _ => ?_
  refine g_end (by kernel_rfl) ?_
  refine n_then ?_
  refine g_block ?_
  refine g_newrow 0 3 1 rfl ?_
  refine g_fin [1, 4, 5, 12, 13, 14] [] [0] ⟨[(1, .v (.func (.func g) #[] [].toArray)), (4, .v (.slice none 0 0)), (5, .v (.slice none 0 0)), (12, .v (.slice A xs.length c)), (13, .v (.int .i64 ((xs.length : Nat) : Int))), (14, .v (.int .i64 0))], [], [(0, ⟨.slice none 0 0, 3, 1, 0, []⟩)], 0⟩ (by kernel_rfl) ?_
  refine g_while (ι := Nat) (fun k M4 s => ∃ (v : Value) (n : Nat) (cs : List Value), s = ⟨[(1, .v (.func (.func g) #[] [].toArray)), (4, .v (.slice none 0 0)), (5, .v (v)), (12, .v (.slice A xs.length c)), (13, .v (.int .i64 ((xs.length : Nat) : Int))), (14, .v (.int .i64 (k : Int)))], [], [(0, ⟨v, 3, 1, n, cs⟩)], 0⟩ ∧ (k ≤ xs.length ∧ n = (gat fv fb (xs.take k)).length ∧ cs = (gat fv fb (xs.take k)).flatMap chI) ∧ (∀ a u, M a = some u → M4 a = some u)) (fun k => xs.length - k) 0 ⟨_, _, _, rfl, ⟨Nat.zero_le _, rfl, rfl⟩, (fun _ _ h => h)⟩ ?_
  rintro k M4 _ ⟨v, n, cs, rfl, ⟨hk, hn, hcs⟩, le5⟩
  refine g_seq ?_
  refine g_region ?_
  refine g_exec 1 [1, 4, 5, 12, 13, 14, 15] [] [0] (fun _ => ⟨[(1, .v (.func (.func g) #[] [].toArray)), (4, .v (.slice none 0 0)), (5, .v (v)), (12, .v (.slice A xs.length c)), (13, .v (.int .i64 ((xs.length : Nat) : Int))), (14, .v (.int .i64 (k : Int))), (15, .v (.bool (decide ((k : Int) < ((xs.length : Nat) : Int)))))], [], [(0, ⟨v, 3, 1, n, cs⟩)], 0⟩) (fun _ => by kernel_rfl) fun _ => ?_
  refine g_end (by kernel_rfl) ?_
  refine n_then ?_
  refine g_seq ?_
  refine g_cond (decide ((k : Int) < ((xs.length : Nat) : Int))) (by kernel_rfl) (fun hc7 => ?_) (fun hc7 => ?_)
  · replace hc7 := of_decide_eq_true hc7
    refine g_skip ?_
    refine n_then ?_
    refine g_seq ?_
    refine g_block ?_
    refine g_seq ?_
    refine g_region ?_
    obtain ⟨x11, hx11⟩ : ∃ p, xs[k]? = some p := ⟨_, List.getElem?_eq_getElem (show k < xs.length by omega)⟩
    obtain ⟨b9, o10, _, rfl, rfl, _, heb9⟩ := hrow.at hx11
    refine g_yld (y_index (dst := some 16) (b := b9) (o := o10) (len := xs.length) (kk := .i64) (ii := (k : Int)) (sz := 2) (by kernel_rfl) (by omega) (by omega)) ?_
    refine g_yld (y_loads (dst := some 17) (b := b9) (o := o10 + k * 2) (sz := 2) (by kernel_rfl) (cs := [.int .i64 x11.1, .int .i64 x11.2]) rfl (fun j v hj => le5 _ _ (heb9 j v hj))) ?_
    refine g_exec 2 [1, 4, 5, 7, 12, 13, 14] [0] [0] (fun f13 => ⟨[(1, .v (.func (.func g) #[] [].toArray)), (4, .v (.slice none 0 0)), (5, .v (v)), (7, .l 0 (f13 2) 0), (12, .v (.slice (some ⟨b9, o10, none⟩) xs.length c)), (13, .v (.int .i64 ((xs.length : Nat) : Int))), (14, .v (.int .i64 (k : Int)))], [(0, .cells (f13 2) [.int .i64 x11.1, .int .i64 x11.2] 53)], [(0, ⟨v, 3, 1, n, cs⟩)], 1⟩) (fun _ => by kernel_rfl) fun f13 => ?_
    refine g_end (by kernel_rfl) ?_
    refine n_then ?_
    refine g_seq ?_
    refine g_region ?_
    refine g_exec 7 [1, 4, 5, 12, 13, 14, 22, 23, 24] [1] [0] (fun f14 => ⟨[(1, .v (.func (.func g) #[] [].toArray)), (4, .v (.slice none 0 0)), (5, .v (v)), (12, .v (.slice (some ⟨b9, o10, none⟩) xs.length c)), (13, .v (.int .i64 ((xs.length : Nat) : Int))), (14, .v (.int .i64 (k : Int))), (22, .v (.slice (some ⟨(f14 4), 0, none⟩) 2 2)), (23, .v (.int .i64 2)), (24, .v (.int .i64 0))], [(1, .cells (f14 4) [.int .i64 x11.1, .int .i64 x11.2] 24)], [(0, ⟨v, 3, 1, n, cs⟩)], 2⟩) (fun _ => by kernel_rfl) fun f14 => ?_
    refine g_end (by kernel_rfl) ?_
    refine n_then ?_
    refine g_block ?_
    refine g_pubL 1 (b := (f14 4)) (t := 24) (cs := [.int .i64 x11.1, .int .i64 x11.2]) (by rfl) ?_
    intro M15 le16 hp17
    have hlit := row_pubL (enc := chI) (sz := 1) (fun _ => rfl) [x11.1, x11.2] [] hp17
    refine g_fin [1, 4, 5, 12, 13, 14, 22, 23, 24] [] [0] ⟨[(1, .v (.func (.func g) #[] [].toArray)), (4, .v (.slice none 0 0)), (5, .v (v)), (12, .v (.slice (some ⟨b9, o10, none⟩) xs.length c)), (13, .v (.int .i64 ((xs.length : Nat) : Int))), (14, .v (.int .i64 (k : Int))), (22, .v (.slice (some ⟨(f14 4), 0, none⟩) 2 2)), (23, .v (.int .i64 2)), (24, .v (.int .i64 0))], [], [(0, ⟨v, 3, 1, n, cs⟩)], 0⟩ (by kernel_rfl) ?_
    refine g_while (ι := Nat) (fun q M18 s => ∃ (v2 : Value) (n2 : Nat) (cs2 : List Value), s = ⟨[(1, .v (.func (.func g) #[] [].toArray)), (4, .v (.slice none 0 0)), (5, .v (v2)), (12, .v (.slice (some ⟨b9, o10, none⟩) xs.length c)), (13, .v (.int .i64 ((xs.length : Nat) : Int))), (14, .v (.int .i64 (k : Int))), (22, .v (.slice (some ⟨(f14 4), 0, none⟩) 2 2)), (23, .v (.int .i64 2)), (24, .v (.int .i64 (q : Int)))], [], [(0, ⟨v2, 3, 1, n2, cs2⟩)], 0⟩ ∧ (q ≤ 2 ∧ n2 = (gat fv fb (xs.take k) ++ gatA fv fb ([x11.1, x11.2].take q)).length ∧ cs2 = (gat fv fb (xs.take k) ++ gatA fv fb ([x11.1, x11.2].take q)).flatMap chI) ∧ (∀ a u, M15 a = some u → M18 a = some u)) (fun q => 2 - q) 0 ⟨_, _, _, rfl, ⟨Nat.zero_le _, by rw [hn]; simp [gatA], by rw [hcs]; simp [gatA]⟩, (fun _ _ h => h)⟩ ?_
    rintro q M18 _ ⟨v2, n2, cs2, rfl, ⟨hq, hn2, hcs2⟩, le19⟩
    refine g_seq ?_
    refine g_region ?_
    refine g_exec 1 [1, 4, 5, 12, 13, 14, 22, 23, 24, 25] [] [0] (fun _ => ⟨[(1, .v (.func (.func g) #[] [].toArray)), (4, .v (.slice none 0 0)), (5, .v (v2)), (12, .v (.slice (some ⟨b9, o10, none⟩) xs.length c)), (13, .v (.int .i64 ((xs.length : Nat) : Int))), (14, .v (.int .i64 (k : Int))), (22, .v (.slice (some ⟨(f14 4), 0, none⟩) 2 2)), (23, .v (.int .i64 2)), (24, .v (.int .i64 (q : Int))), (25, .v (.bool (decide ((q : Int) < 2))))], [], [(0, ⟨v2, 3, 1, n2, cs2⟩)], 0⟩) (fun _ => by kernel_rfl) fun _ => ?_
    refine g_end (by kernel_rfl) ?_
    refine n_then ?_
    refine g_seq ?_
    refine g_cond (decide ((q : Int) < 2)) (by kernel_rfl) (fun hc21 => ?_) (fun hc21 => ?_)
    · replace hc21 := of_decide_eq_true hc21
      have hbn := gat_bound hn2
      refine g_skip ?_
      refine n_then ?_
      refine g_seq ?_
      refine g_block ?_
      refine g_seq ?_
      refine g_region ?_
      obtain ⟨y25, hy25⟩ : ∃ p, [x11.1, x11.2][q]? = some p := ⟨_, List.getElem?_eq_getElem (show q < 2 by omega)⟩
      obtain ⟨_, rfl, _, hey25⟩ := Row.atc hlit hy25
      refine g_yld (y_index (dst := some 26) (b := (f14 4)) (o := 0) (len := 2) (kk := .i64) (ii := (q : Int)) (sz := 1) (by kernel_rfl) (by omega) (by omega)) ?_
      refine g_yld (y_load1 (dst := some 27) (ad := ⟨(f14 4), 0 + q * 1, none⟩) (sz := 1) (by kernel_rfl) (v := .int .i64 y25) (le19 _ _ (hey25 0 _ rfl))) ?_
      refine g_exec 1 [1, 4, 5, 9, 12, 13, 14, 22, 23, 24] [] [0] (fun _ => ⟨[(1, .v (.func (.func g) #[] [].toArray)), (4, .v (.slice none 0 0)), (5, .v (v2)), (9, .v (.int .i64 y25)), (12, .v (.slice (some ⟨b9, o10, none⟩) xs.length c)), (13, .v (.int .i64 ((xs.length : Nat) : Int))), (14, .v (.int .i64 (k : Int))), (22, .v (.slice (some ⟨(f14 4), 0, none⟩) 2 2)), (23, .v (.int .i64 2)), (24, .v (.int .i64 (q : Int)))], [], [(0, ⟨v2, 3, 1, n2, cs2⟩)], 0⟩) (fun _ => by kernel_rfl) fun _ => ?_
      refine g_end (by kernel_rfl) ?_
      refine n_then ?_
      refine g_seq ?_
      refine g_region ?_
      refine g_exec 2 [1, 4, 5, 12, 13, 14, 22, 23, 24, 29, 30] [] [0] (fun _ => ⟨[(1, .v (.func (.func g) #[] [].toArray)), (4, .v (.slice none 0 0)), (5, .v (v2)), (12, .v (.slice (some ⟨b9, o10, none⟩) xs.length c)), (13, .v (.int .i64 ((xs.length : Nat) : Int))), (14, .v (.int .i64 (k : Int))), (22, .v (.slice (some ⟨(f14 4), 0, none⟩) 2 2)), (23, .v (.int .i64 2)), (24, .v (.int .i64 (q : Int))), (29, .v (.func (.func g) #[] [].toArray)), (30, .v (.int .i64 y25))], [], [(0, ⟨v2, 3, 1, n2, cs2⟩)], 0⟩) (fun _ => by kernel_rfl) fun _ => ?_
      refine g_call (dst := some 31) (g := g) (args := ([.int .i64 y25] ++ [])) (by kernel_rfl) hg (fun v _ => v = .tuple #[.int .i64 (fv y25), .bool (fb y25)]) (by intro w hst; exact hf _ _ hst.sat y25) ?_
      rintro _ M29 le30 rfl
      refine g_exec 5 [1, 4, 5, 10, 11, 12, 13, 14, 22, 23, 24] [] [0] (fun _ => ⟨[(1, .v (.func (.func g) #[] [].toArray)), (4, .v (.slice none 0 0)), (5, .v (v2)), (10, .v (.int .i64 (fv y25))), (11, .v (.bool (fb y25))), (12, .v (.slice (some ⟨b9, o10, none⟩) xs.length c)), (13, .v (.int .i64 ((xs.length : Nat) : Int))), (14, .v (.int .i64 (k : Int))), (22, .v (.slice (some ⟨(f14 4), 0, none⟩) 2 2)), (23, .v (.int .i64 2)), (24, .v (.int .i64 (q : Int)))], [], [(0, ⟨v2, 3, 1, n2, cs2⟩)], 0⟩) (fun _ => by kernel_rfl) fun _ => ?_
      refine g_end (by kernel_rfl) ?_
      refine n_then ?_
      refine g_seq ?_
      refine g_region ?_
      refine g_exec 1 [1, 4, 5, 10, 12, 13, 14, 22, 23, 24, 34] [] [0] (fun _ => ⟨[(1, .v (.func (.func g) #[] [].toArray)), (4, .v (.slice none 0 0)), (5, .v (v2)), (10, .v (.int .i64 (fv y25))), (12, .v (.slice (some ⟨b9, o10, none⟩) xs.length c)), (13, .v (.int .i64 ((xs.length : Nat) : Int))), (14, .v (.int .i64 (k : Int))), (22, .v (.slice (some ⟨(f14 4), 0, none⟩) 2 2)), (23, .v (.int .i64 2)), (24, .v (.int .i64 (q : Int))), (34, .v (.bool (fb y25)))], [], [(0, ⟨v2, 3, 1, n2, cs2⟩)], 0⟩) (fun _ => by kernel_rfl) fun _ => ?_
      refine g_end (by kernel_rfl) ?_
      refine n_then ?_
      refine g_cond ((fb y25)) (by kernel_rfl) (fun hc33 => ?_) (fun hc33 => ?_)
      · refine g_region ?_
        refine g_exec 3 [1, 4, 5, 12, 13, 14, 22, 23, 24, 35, 37] [0] [0] (fun f34 => ⟨[(1, .v (.func (.func g) #[] [].toArray)), (4, .v (.slice none 0 0)), (5, .v (v2)), (12, .v (.slice (some ⟨b9, o10, none⟩) xs.length c)), (13, .v (.int .i64 ((xs.length : Nat) : Int))), (14, .v (.int .i64 (k : Int))), (22, .v (.slice (some ⟨(f14 4), 0, none⟩) 2 2)), (23, .v (.int .i64 2)), (24, .v (.int .i64 (q : Int))), (35, .v (v2)), (37, .v (.slice (some ⟨(f34 2), 0, none⟩) 1 1))], [(0, .cells (f34 2) [.int .i64 (fv y25)] 3)], [(0, ⟨v2, 3, 1, n2, cs2⟩)], 1⟩) (fun _ => by kernel_rfl) fun f34 => ?_
        refine g_append (dst := some 38) 0 0 1 (u := v2) (row := ⟨v2, 3, 1, n2, cs2⟩) (b := (f34 2)) (cs := [.int .i64 (fv y25)]) (bytes := 8) (by kernel_rfl) rfl rfl (by show (n2 + 1) * 8 ≤ 140737488355328; omega) (by show n2 + 1 ≤ 140737488355328; omega) ?_
        intro v35
        refine g_exec 1 [1, 4, 5, 12, 13, 14, 22, 23, 24] [] [0] (fun _ => ⟨[(1, .v (.func (.func g) #[] [].toArray)), (4, .v (.slice none 0 0)), (5, .v (v35)), (12, .v (.slice (some ⟨b9, o10, none⟩) xs.length c)), (13, .v (.int .i64 ((xs.length : Nat) : Int))), (14, .v (.int .i64 (k : Int))), (22, .v (.slice (some ⟨(f14 4), 0, none⟩) 2 2)), (23, .v (.int .i64 2)), (24, .v (.int .i64 (q : Int)))], [], [(0, ⟨v35, 3, 1, n2 + 1, cs2 ++ [.int .i64 (fv y25)]⟩)], 0⟩) (fun _ => by kernel_rfl) fun _ => ?_
        refine g_end (by kernel_rfl) ?_
        refine n_block ?_
        refine n_then ?_
        refine g_region ?_
        refine g_exec 2 [1, 4, 5, 12, 13, 14, 22, 23, 24] [] [0] (fun _ => ⟨[(1, .v (.func (.func g) #[] [].toArray)), (4, .v (.slice none 0 0)), (5, .v (v35)), (12, .v (.slice (some ⟨b9, o10, none⟩) xs.length c)), (13, .v (.int .i64 ((xs.length : Nat) : Int))), (14, .v (.int .i64 (k : Int))), (22, .v (.slice (some ⟨(f14 4), 0, none⟩) 2 2)), (23, .v (.int .i64 2)), (24, .v (.int .i64 (IntKind.i64.wrap ((q : Int) + 1))))], [], [(0, ⟨v35, 3, 1, n2 + 1, cs2 ++ [.int .i64 (fv y25)]⟩)], 0⟩) (fun _ => by kernel_rfl) fun _ => ?_
        refine g_end (by kernel_rfl) ?_
        refine n_then ?_
        refine g_val 24 (v := .int .i64 (IntKind.i64.wrap ((q : Int) + 1))) (.int .i64 ((q + 1 : Nat) : Int)) (by kernel_rfl) (by rw [wrapN q (by omega)]) ?_
        refine g_fin [1, 4, 5, 12, 13, 14, 22, 23, 24] [] [0] ⟨[(1, .v (.func (.func g) #[] [].toArray)), (4, .v (.slice none 0 0)), (5, .v (v35)), (12, .v (.slice (some ⟨b9, o10, none⟩) xs.length c)), (13, .v (.int .i64 ((xs.length : Nat) : Int))), (14, .v (.int .i64 (k : Int))), (22, .v (.slice (some ⟨(f14 4), 0, none⟩) 2 2)), (23, .v (.int .i64 2)), (24, .v (.int .i64 ((q + 1 : Nat) : Int)))], [], [(0, ⟨v35, 3, 1, n2 + 1, cs2 ++ [.int .i64 (fv y25)]⟩)], 0⟩ (by kernel_rfl) ?_
        exact g_again (q + 1) ⟨_, _, _, rfl, ⟨by omega, by rw [gatA_t hy25 hc33, hn2]; simp only [List.length_append, List.length_cons, List.length_nil]; omega, by rw [gatA_t hy25 hc33, hcs2]; simp only [List.flatMap_append, List.append_assoc]; rfl⟩, (fun _ _ h => (le30 _ _ (le19 _ _ h)))⟩ (by omega)
      · refine g_skip ?_
        refine n_block ?_
        refine n_then ?_
        refine g_region ?_
        refine g_exec 2 [1, 4, 5, 12, 13, 14, 22, 23, 24] [] [0] (fun _ => ⟨[(1, .v (.func (.func g) #[] [].toArray)), (4, .v (.slice none 0 0)), (5, .v (v2)), (12, .v (.slice (some ⟨b9, o10, none⟩) xs.length c)), (13, .v (.int .i64 ((xs.length : Nat) : Int))), (14, .v (.int .i64 (k : Int))), (22, .v (.slice (some ⟨(f14 4), 0, none⟩) 2 2)), (23, .v (.int .i64 2)), (24, .v (.int .i64 (IntKind.i64.wrap ((q : Int) + 1))))], [], [(0, ⟨v2, 3, 1, n2, cs2⟩)], 0⟩) (fun _ => by kernel_rfl) fun _ => ?_
        refine g_end (by kernel_rfl) ?_
        refine n_then ?_
        refine g_val 24 (v := .int .i64 (IntKind.i64.wrap ((q : Int) + 1))) (.int .i64 ((q + 1 : Nat) : Int)) (by kernel_rfl) (by rw [wrapN q (by omega)]) ?_
        refine g_fin [1, 4, 5, 12, 13, 14, 22, 23, 24] [] [0] ⟨[(1, .v (.func (.func g) #[] [].toArray)), (4, .v (.slice none 0 0)), (5, .v (v2)), (12, .v (.slice (some ⟨b9, o10, none⟩) xs.length c)), (13, .v (.int .i64 ((xs.length : Nat) : Int))), (14, .v (.int .i64 (k : Int))), (22, .v (.slice (some ⟨(f14 4), 0, none⟩) 2 2)), (23, .v (.int .i64 2)), (24, .v (.int .i64 ((q + 1 : Nat) : Int)))], [], [(0, ⟨v2, 3, 1, n2, cs2⟩)], 0⟩ (by kernel_rfl) ?_
        exact g_again (q + 1) ⟨_, _, _, rfl, ⟨by omega, by rw [gatA_f hy25 hc33]; exact hn2, by rw [gatA_f hy25 hc33]; exact hcs2⟩, (fun _ _ h => (le30 _ _ (le19 _ _ h)))⟩ (by omega)
    · replace hc21 := of_decide_eq_false hc21
      have hbn := gat_bound hn2
      refine g_exit ?_
      refine n_then_exit ?_
      refine n_then_exit ?_
      refine n_block_exit ?_
      refine n_block ?_
      refine n_then ?_
      refine g_region ?_
      refine g_exec 2 [1, 4, 5, 12, 13, 14] [] [0] (fun _ => ⟨[(1, .v (.func (.func g) #[] [].toArray)), (4, .v (.slice none 0 0)), (5, .v (v2)), (12, .v (.slice (some ⟨b9, o10, none⟩) xs.length c)), (13, .v (.int .i64 ((xs.length : Nat) : Int))), (14, .v (.int .i64 (IntKind.i64.wrap ((k : Int) + 1))))], [], [(0, ⟨v2, 3, 1, n2, cs2⟩)], 0⟩) (fun _ => by kernel_rfl) fun _ => ?_
      refine g_end (by kernel_rfl) ?_
      refine n_then ?_
      refine g_val 14 (v := .int .i64 (IntKind.i64.wrap ((k : Int) + 1))) (.int .i64 ((k + 1 : Nat) : Int)) (by kernel_rfl) (by rw [wrapN k (by omega)]) ?_
      refine g_fin [1, 4, 5, 12, 13, 14] [] [0] ⟨[(1, .v (.func (.func g) #[] [].toArray)), (4, .v (.slice none 0 0)), (5, .v (v2)), (12, .v (.slice (some ⟨b9, o10, none⟩) xs.length c)), (13, .v (.int .i64 ((xs.length : Nat) : Int))), (14, .v (.int .i64 ((k + 1 : Nat) : Int)))], [], [(0, ⟨v2, 3, 1, n2, cs2⟩)], 0⟩ (by kernel_rfl) ?_
      exact g_again (k + 1) ⟨_, _, _, rfl, ⟨by omega, by rw [gat_snoc hx11, hn2, show q = 2 by omega]; rfl, by rw [gat_snoc hx11, hcs2, show q = 2 by omega]; rfl⟩, (fun _ _ h => (le19 _ _ (le16 _ _ (le5 _ _ h))))⟩ (by omega)
  · replace hc7 := of_decide_eq_false hc7
    refine g_exit ?_
    refine n_then_exit ?_
    refine n_then_exit ?_
    refine n_block_exit ?_
    refine n_then ?_
    refine g_seq ?_
    refine g_region ?_
    refine g_exec 1 [4, 5, 41] [] [0] (fun _ => ⟨[(4, .v (.slice none 0 0)), (5, .v (v)), (41, .v (v))], [], [(0, ⟨v, 3, 1, n, cs⟩)], 0⟩) (fun _ => by kernel_rfl) fun _ => ?_
    have hkk : k = xs.length := by omega
    rw [hkk, List.take_length] at hn hcs
    subst hn hcs
    have hzl := gat_len fv fb xs
    refine g_openR 0 (row := ⟨v, 3, 1, (gat fv fb xs).length, (gat fv fb xs).flatMap chI⟩) (by rfl) (by simp) (fun hv hn0 hc0 => ?_) (fun b cap tail hv hcap _ => ?_)
    · have hv : v = .slice none 0 0 := hv
      have hz0 : (gat fv fb xs) = [] := List.eq_nil_of_length_eq_zero hn0
      refine g_val 5 (v := v) (.slice none 0 0) (by kernel_rfl) hv ?_
      refine g_val 41 (v := v) (.slice none 0 0) (by kernel_rfl) hv ?_
      refine g_call (dst := some 42) (g := 55) (args := [.slice none 0 0]) (by kernel_rfl) (by kernel_rfl) (fun v _ => v = .tuple #[]) (by intro w hst; exact sortI_nil hst.sat) ?_
      rintro _ M42 le43 rfl
      refine g_end (by kernel_rfl) ?_
      refine n_then ?_
      refine g_seq ?_
      refine g_region ?_
      refine g_exec 1 [4, 43] [] [] (fun _ => ⟨[(4, .v (.slice none 0 0)), (43, .v (.slice none 0 0))], [], [], 0⟩) (fun _ => by kernel_rfl) fun _ => ?_
      refine g_call (dst := some 44) (g := 56) (args := [.slice none 0 0]) (by kernel_rfl) (by kernel_rfl) (fun v _ => v = .slice none 0 0) (by intro w hst; exact compactI_nil hst.sat 0) ?_
      rintro _ M46 le47 rfl
      refine g_exec 1 [4] [] [] (fun _ => ⟨[(4, .v (.slice none 0 0))], [], [], 0⟩) (fun _ => by kernel_rfl) fun _ => ?_
      refine g_end (by kernel_rfl) ?_
      refine n_then ?_
      refine g_ret ?_
      exact n_post (.slice none 0 0) (by kernel_rfl) (by rw [gatS, hz0, List.mergeSort_nil]; exact ⟨none, 0, rfl, Nat.le_refl _, Row.nil⟩)
    · have hv : v = .slice (some ⟨b, 0, none⟩) (gat fv fb xs).length cap := hv
      have hcap : (gat fv fb xs).length ≤ cap := hcap
      refine g_val 5 (v := v) (.slice (some ⟨b, 0, none⟩) (gat fv fb xs).length cap) (by kernel_rfl) hv ?_
      refine g_val 41 (v := v) (.slice (some ⟨b, 0, none⟩) (gat fv fb xs).length cap) (by kernel_rfl) hv ?_
      refine g_callL (dst := some 42) (g := 55) (args := [.slice (some ⟨b, 0, none⟩) ((gat fv fb xs).length) cap]) [0] [.cells b (FL chI (gat fv fb xs) tail) 3] (by kernel_rfl) (by kernel_rfl) (by kernel_rfl) (SortPost 3 b (gat fv fb xs) tail) (by intro w hst hLe; exact sortI_calls hst.sat (gat fv fb xs) tail b cap (by omega) hLe) ?_
      rintro v M50 Lo le51 (⟨rfl, rfl⟩)
      have hml := List.length_mergeSort (le := fun x y => decide (x ≤ y)) (gat fv fb xs)
      refine g_val 5 (v := .slice (some ⟨b, 0, none⟩) (gat fv fb xs).length cap) (.slice (some ⟨b, 0, none⟩) ((gat fv fb xs).mergeSort fun x y => decide (x ≤ y)).length cap) (by kernel_rfl) (by rw [hml]) ?_
      refine g_end (by kernel_rfl) ?_
      refine n_then ?_
      refine g_seq ?_
      refine g_region ?_
      refine g_exec 1 [4, 43] [1] [] (fun _ => ⟨[(4, .v (.slice none 0 0)), (43, .v (.slice (some ⟨b, 0, none⟩) (((gat fv fb xs).mergeSort fun x y => decide (x ≤ y)).length) cap))], [(1, .cells b (FL chI ((gat fv fb xs).mergeSort fun x y => decide (x ≤ y)) tail) 3)], [], 2⟩) (fun _ => by kernel_rfl) fun _ => ?_
      refine g_callL (dst := some 44) (g := 56) (args := [.slice (some ⟨b, 0, none⟩) (((gat fv fb xs).mergeSort fun x y => decide (x ≤ y)).length) cap]) [1] [.cells b (FL chI ((gat fv fb xs).mergeSort fun x y => decide (x ≤ y)) tail) 3] (by kernel_rfl) (by kernel_rfl) (by kernel_rfl) (fun v M' Lo => ∃ tl', v = .slice (some ⟨b, 0, none⟩) (cpt ((gat fv fb xs).mergeSort fun x y => decide (x ≤ y))).length cap ∧ Lo = [.cells b (FL chI (cpt ((gat fv fb xs).mergeSort fun x y => decide (x ≤ y))) tl') 3] ∧ (cpt ((gat fv fb xs).mergeSort fun x y => decide (x ≤ y))).length * 1 + tl'.length = ((gat fv fb xs).mergeSort fun x y => decide (x ≤ y)).length * 1 + tail.length) (by intro w hst hLe; exact compactI_calls hst.sat ((gat fv fb xs).mergeSort fun x y => decide (x ≤ y)) tail b cap (by omega) (by omega) hLe) ?_
      rintro v M54 Lo le55 (⟨tl', rfl, rfl, _⟩)
      refine g_exec 1 [4] [2] [] (fun _ => ⟨[(4, .v (.slice (some ⟨b, 0, none⟩) ((cpt ((gat fv fb xs).mergeSort fun x y => decide (x ≤ y))).length) cap))], [(2, .cells b (FL chI (cpt ((gat fv fb xs).mergeSort fun x y => decide (x ≤ y))) tl') 3)], [], 3⟩) (fun _ => by kernel_rfl) fun _ => ?_
      refine g_end (by kernel_rfl) ?_
      refine n_then ?_
      refine g_ret ?_
      refine g_pubL 2 (b := b) (t := 3) (cs := FL chI (cpt ((gat fv fb xs).mergeSort fun x y => decide (x ≤ y))) tl') (by rfl) ?_
      intro M57 le58 hp59
      have hcl := cpt_length_le ((gat fv fb xs).mergeSort fun x y => decide (x ≤ y))
      exact n_post (.slice (some ⟨b, 0, none⟩) ((cpt ((gat fv fb xs).mergeSort fun x y => decide (x ≤ y))).length) cap) (by kernel_rfl) ⟨_, cap, rfl, by rw [gatS]; omega, row_pubL (enc := chI) (sz := 1) (fun _ => rfl) (cpt ((gat fv fb xs).mergeSort fun x y => decide (x ≤ y))) tl' hp59⟩
end Go.Ch
