import Derived.Test.YtpnkncinmoogpaaGreatDoorTatomC
set_option linter.unusedVariables false
namespace Go.Ch
open Go Go.Eng Go.Proofs
def isPt (a : Int) : Bool := decide (a < 0)
def ptOf (a : Int) : Int := if notI a < -1 then -1 else notI a
def pointA (p : Int) : Int := if p < 0 then 0 else notI p
def varsL (l : List (Int × Int)) : List Int := gatS id (fun a => !isPt a) l
def pointsL (l : List (Int × Int)) : List Int := gatS ptOf isPt l
def shiftA (n a : Int) : Int := if a < 0 then a else if IntKind.i64.wrap (a + n) < 0 then 0 else IntKind.i64.wrap (a + n)
def renA (xs ys : List Int) (a : Int) : Int := match xs.findIdx? (fun x => x == a) with
  | some k => ys.getD k a
  | none => a
theorem renA_no {xs ys : List Int} {a : Int} (h : ∀ y ∈ xs, y ≠ a) : renA xs ys a = a := by
  unfold renA; rw [List.findIdx?_eq_none_iff.2 (fun x hx => by simp [h x hx])]
theorem find_at {xs : List Int} {a : Int} {k : Nat} (hk : xs[k]? = some a) (hall : ∀ y ∈ xs.take k, y ≠ a) : xs.findIdx? (fun x => x == a) = some k := by
  have hl := List.getElem?_eq_some_iff.1 hk
  rw [List.findIdx?_eq_some_iff_getElem]
  refine ⟨hl.1, by simp [hl.2], fun j hj => ?_⟩
  have hl1 := hl.1
  have := hall (xs[j]'(by omega)) (by rw [List.mem_take_iff_getElem]; exact ⟨j, by omega, rfl⟩)
  simp [this]
theorem renA_in {xs ys : List Int} {a y : Int} {k : Nat} (hk : xs[k]? = some a) (hall : ∀ y ∈ xs.take k, y ≠ a) (hy : ys[k]? = some y) : renA xs ys a = y := by
  unfold renA; rw [find_at hk hall]; simp [List.getD_eq_getElem?_getD, hy]
theorem renA_out {xs ys : List Int} {a : Int} {k : Nat} (hk : xs[k]? = some a) (hall : ∀ y ∈ xs.take k, y ≠ a) (hy : ys.length ≤ k) : renA xs ys a = a := by
  unfold renA; rw [find_at hk hall]; simp [List.getD_eq_getElem?_getD, List.getElem?_eq_none hy]

theorem isPoint_calls {M : Mem} {w : World} (hM : Sat M w) (a : Int) : Ct Tryz.prog 27 [.int .i64 a] [] w M (fun v _ => v = .bool (isPt a)) := by
  refine enter (n := 5) Tryz.func27 rfl rfl _ (by kernel_rfl) hM ?_
  refine g_seq ?_
  refine g_region ?_
  refine g_exec 1 [0, 2] [] [] (fun _ => ⟨[(0, .v (.int .i64 a)), (2, .v (.bool false))], [], [], 0⟩) (fun _ => by kernel_rfl) fun _ => ?_
  refine g_end (by kernel_rfl) ?_
  refine n_then ?_
  refine g_seq ?_
  refine g_region ?_
  refine g_exec 3 [2] [] [] (fun _ => ⟨[(2, .v (.bool (decide (a < 0))))], [], [], 0⟩) (fun _ => by kernel_rfl) fun _ => ?_
  refine g_end (by kernel_rfl) ?_
  refine n_then ?_
  refine g_ret ?_
  exact n_post (.bool (decide (a < 0))) (by kernel_rfl) rfl
theorem pointOf_calls {M : Mem} {w : World} (hM : Sat M w) (a : Int) : Ct Tryz.prog 25 [.int .i64 a] [] w M (fun v _ => v = .int .i64 (ptOf a)) := by
  refine enter (n := 6) Tryz.func25 rfl rfl _ (by kernel_rfl) hM ?_
  refine g_seq ?_
  refine g_region ?_
  refine g_exec 1 [0, 2] [] [] (fun _ => ⟨[(0, .v (.int .i64 a)), (2, .v (.int .i64 0))], [], [], 0⟩) (fun _ => by kernel_rfl) fun _ => ?_
  refine g_end (by kernel_rfl) ?_
  refine n_then ?_
  refine g_seq ?_
  refine g_region ?_
  refine g_exec 4 [2] [] [] (fun _ => ⟨[(2, .v (.int .i64 (if notI a < -1 then -1 else notI a)))], [], [], 0⟩) (fun _ => by kernel_rfl) fun _ => ?_
  refine g_end (by kernel_rfl) ?_
  refine n_then ?_
  refine g_ret ?_
  exact n_post (.int .i64 (if notI a < -1 then -1 else notI a)) (by kernel_rfl) rfl
theorem point_calls {M : Mem} {w : World} (hM : Sat M w) (a : Int) : Ct Tryz.prog 23 [.int .i64 a] [] w M (fun v _ => v = .int .i64 (pointA a)) := by
  refine enter (n := 7) Tryz.func23 rfl rfl _ (by kernel_rfl) hM ?_
  refine g_seq ?_
  refine g_region ?_
  refine g_exec 1 [0, 2] [] [] (fun _ => ⟨[(0, .v (.int .i64 a)), (2, .v (.int .i64 0))], [], [], 0⟩) (fun _ => by kernel_rfl) fun _ => ?_
  refine g_end (by kernel_rfl) ?_
  refine n_then ?_
  refine g_seq ?_
  refine g_seq ?_
  refine g_region ?_
  refine g_exec 2 [0, 2, 4] [] [] (fun _ => ⟨[(0, .v (.int .i64 a)), (2, .v (.int .i64 0)), (4, .v (.bool (decide (a < 0))))], [], [], 0⟩) (fun _ => by kernel_rfl) fun _ => ?_
  refine g_end (by kernel_rfl) ?_
  refine n_then ?_
  refine g_cond (decide (a < 0)) (by kernel_rfl) (fun hc3 => ?_) (fun hc3 => ?_)
  · replace hc3 := of_decide_eq_true hc3
    refine g_seq ?_
    refine g_region ?_
    refine g_exec 1 [0, 2] [] [] (fun _ => ⟨[(0, .v (.int .i64 a)), (2, .v (.int .i64 0))], [], [], 0⟩) (fun _ => by kernel_rfl) fun _ => ?_
    refine g_end (by kernel_rfl) ?_
    refine n_then ?_
    refine g_ret ?_
    refine n_then_ret ?_
    exact n_post (.int .i64 0) (by kernel_rfl) (by unfold pointA; split <;> first | rfl | omega)
  · replace hc3 := of_decide_eq_false hc3
    refine g_skip ?_
    refine n_then ?_
    refine g_seq ?_
    refine g_region ?_
    refine g_exec 3 [2] [] [] (fun _ => ⟨[(2, .v (.int .i64 (notI a)))], [], [], 0⟩) (fun _ => by kernel_rfl) fun _ => ?_
    refine g_end (by kernel_rfl) ?_
    refine n_then ?_
    refine g_ret ?_
    exact n_post (.int .i64 (notI a)) (by kernel_rfl) (by unfold pointA; split <;> first | rfl | omega)
theorem vars1_calls {M : Mem} {w : World} (hM : Sat M w) (a : Int) : Ct Tryz.prog 34 [.int .i64 a] [] w M (fun v _ => v = .tuple #[.int .i64 (id a), .bool (!isPt a)]) := by
  refine enter (n := 8) Tryz.func34 rfl rfl _ (by kernel_rfl) hM ?_
  refine g_seq ?_
  refine g_region ?_
  refine g_exec 2 [0, 2, 3] [] [] (fun _ => ⟨[(0, .v (.int .i64 a)), (2, .v (.int .i64 0)), (3, .v (.bool false))], [], [], 0⟩) (fun _ => by kernel_rfl) fun _ => ?_
  refine g_end (by kernel_rfl) ?_
  refine n_then ?_
  refine g_seq ?_
  refine g_region ?_
  refine g_exec 2 [2, 3, 4, 5] [] [] (fun _ => ⟨[(2, .v (.int .i64 0)), (3, .v (.bool false)), (4, .v (.int .i64 a)), (5, .v (.int .i64 a))], [], [], 0⟩) (fun _ => by kernel_rfl) fun _ => ?_
  refine g_call (dst := some 6) (g := 27) (args := [.int .i64 a]) (by kernel_rfl) (by kernel_rfl) (fun v _ => v = .bool (isPt a)) (by intro w hst; exact isPoint_calls hst.sat a) ?_
  rintro _ M3 le4 rfl
  refine g_exec 3 [2, 3] [] [] (fun _ => ⟨[(2, .v (.int .i64 a)), (3, .v (.bool (!(isPt a))))], [], [], 0⟩) (fun _ => by kernel_rfl) fun _ => ?_
  refine g_end (by kernel_rfl) ?_
  refine n_then ?_
  refine g_ret ?_
  exact n_post (.tuple #[.int .i64 a, .bool (!(isPt a))]) (by kernel_rfl) rfl
theorem points1_calls {M : Mem} {w : World} (hM : Sat M w) (a : Int) : Ct Tryz.prog 37 [.int .i64 a] [] w M (fun v _ => v = .tuple #[.int .i64 (ptOf a), .bool (isPt a)]) := by
  refine enter (n := 8) Tryz.func37 rfl rfl _ (by kernel_rfl) hM ?_
  refine g_seq ?_
  refine g_region ?_
  refine g_exec 2 [0, 2, 3] [] [] (fun _ => ⟨[(0, .v (.int .i64 a)), (2, .v (.int .i64 0)), (3, .v (.bool false))], [], [], 0⟩) (fun _ => by kernel_rfl) fun _ => ?_
  refine g_end (by kernel_rfl) ?_
  refine n_then ?_
  refine g_seq ?_
  refine g_region ?_
  refine g_exec 1 [0, 2, 3, 4] [] [] (fun _ => ⟨[(0, .v (.int .i64 a)), (2, .v (.int .i64 0)), (3, .v (.bool false)), (4, .v (.int .i64 a))], [], [], 0⟩) (fun _ => by kernel_rfl) fun _ => ?_
  refine g_call (dst := some 5) (g := 25) (args := [.int .i64 a]) (by kernel_rfl) (by kernel_rfl) (fun v _ => v = .int .i64 (ptOf a)) (by intro w hst; exact pointOf_calls hst.sat a) ?_
  rintro _ M3 le4 rfl
  refine g_exec 1 [2, 3, 5, 6] [] [] (fun _ => ⟨[(2, .v (.int .i64 0)), (3, .v (.bool false)), (5, .v (.int .i64 (ptOf a))), (6, .v (.int .i64 a))], [], [], 0⟩) (fun _ => by kernel_rfl) fun _ => ?_
  refine g_call (dst := some 7) (g := 27) (args := [.int .i64 a]) (by kernel_rfl) (by kernel_rfl) (fun v _ => v = .bool (isPt a)) (by intro w hst; exact isPoint_calls hst.sat a) ?_
  rintro _ M6 le7 rfl
  refine g_exec 2 [2, 3] [] [] (fun _ => ⟨[(2, .v (.int .i64 (ptOf a))), (3, .v (.bool (isPt a)))], [], [], 0⟩) (fun _ => by kernel_rfl) fun _ => ?_
  refine g_end (by kernel_rfl) ?_
  refine n_then ?_
  refine g_ret ?_
  exact n_post (.tuple #[.int .i64 (ptOf a), .bool (isPt a)]) (by kernel_rfl) rfl
theorem vars_calls {M : Mem} {w : World} (hM : Sat M w) (xs : List (Int × Int)) (A : Option Addr) (c : Nat) (hrow : Row (flat chP) 2 M A xs) (hlen : xs.length ≤ 274877906944) : Ct Tryz.prog 12 [.slice A xs.length c] [] w M (SlV chI 1 (varsL xs)) := by
  refine enter (n := 5) Tryz.func12 rfl rfl _ (by kernel_rfl) hM ?_
  refine g_seq ?_
  refine g_region ?_
  refine g_exec 1 [0, 2] [] [] (fun _ => ⟨[(0, .v (.slice A xs.length c)), (2, .v (.slice none 0 0))], [], [], 0⟩) (fun _ => by kernel_rfl) fun _ => ?_
  refine g_end (by kernel_rfl) ?_
  refine n_then ?_
  refine g_seq ?_
  refine g_region ?_
  refine g_exec 1 [2, 3] [] [] (fun _ => ⟨[(2, .v (.slice none 0 0)), (3, .v (.slice A xs.length c))], [], [], 0⟩) (fun _ => by kernel_rfl) fun _ => ?_
  refine g_call (dst := some 4) (g := 33) (args := [.slice A xs.length c, .func (.func 34) #[] #[]]) (by kernel_rfl) (by kernel_rfl) (SlV chI 1 (varsL xs)) (by intro w hst; exact gatheredA_calls hst.sat xs A c (hrow.le (fun _ _ h => h)) hlen 34 (by kernel_rfl) id (fun a => !isPt a) (fun w' M' h a => vars1_calls h a)) ?_
  rintro u M3 le4 hu
  refine g_exec 1 [2] [] [] (fun _ => ⟨[(2, .v (u))], [], [], 0⟩) (fun _ => by kernel_rfl) fun _ => ?_
  refine g_end (by kernel_rfl) ?_
  refine n_then ?_
  refine g_ret ?_
  exact n_post (u) (by kernel_rfl) hu
theorem points_calls {M : Mem} {w : World} (hM : Sat M w) (xs : List (Int × Int)) (A : Option Addr) (c : Nat) (hrow : Row (flat chP) 2 M A xs) (hlen : xs.length ≤ 274877906944) : Ct Tryz.prog 14 [.slice A xs.length c] [] w M (SlV chI 1 (pointsL xs)) := by
  refine enter (n := 5) Tryz.func14 rfl rfl _ (by kernel_rfl) hM ?_
  refine g_seq ?_
  refine g_region ?_
  refine g_exec 1 [0, 2] [] [] (fun _ => ⟨[(0, .v (.slice A xs.length c)), (2, .v (.slice none 0 0))], [], [], 0⟩) (fun _ => by kernel_rfl) fun _ => ?_
  refine g_end (by kernel_rfl) ?_
  refine n_then ?_
  refine g_seq ?_
  refine g_region ?_
  refine g_exec 1 [2, 3] [] [] (fun _ => ⟨[(2, .v (.slice none 0 0)), (3, .v (.slice A xs.length c))], [], [], 0⟩) (fun _ => by kernel_rfl) fun _ => ?_
  refine g_call (dst := some 4) (g := 36) (args := [.slice A xs.length c, .func (.func 37) #[] #[]]) (by kernel_rfl) (by kernel_rfl) (SlV chI 1 (pointsL xs)) (by intro w hst; exact gatheredI_calls hst.sat xs A c (hrow.le (fun _ _ h => h)) hlen 37 (by kernel_rfl) ptOf isPt (fun w' M' h a => points1_calls h a)) ?_
  rintro u M3 le4 hu
  refine g_exec 1 [2] [] [] (fun _ => ⟨[(2, .v (u))], [], [], 0⟩) (fun _ => by kernel_rfl) fun _ => ?_
  refine g_end (by kernel_rfl) ?_
  refine n_then ?_
  refine g_ret ?_
  exact n_post (u) (by kernel_rfl) hu
theorem turned_calls {M : Mem} {w : World} (hM : Sat M w) (xs : List (Int × Int)) (A : Option Addr) (c : Nat) (hrow : Row (flat chP) 2 M A xs) (hlen : xs.length ≤ 274877906944) (do_ : Int → Int) (g : Nat) (lb : List Value) (hg : goes Tryz.prog g = true) (hdo : ∀ w' M', Ext [] w M w' M' → ∀ x, Ct Tryz.prog g ([.int .i64 x] ++ lb) [] w' M' (fun v _ => v = .int .i64 (do_ x))) : Ct Tryz.prog 44 [.slice A xs.length c, .func (.func g) #[] lb.toArray] [] w M (SlV chP 2 (xs.map fun p => (do_ p.1, do_ p.2))) := by
  refine enter (n := 28) Tryz.func44 rfl rfl _ (by kernel_rfl) hM ?_
  refine g_seq ?_
  refine g_region ?_
  refine g_exec 1 [0, 1, 4] [] [] (fun _ => ⟨[(0, .v (.slice A xs.length c)), (1, .v (.func (.func g) #[] lb.toArray)), (4, .v (.slice none 0 0))], [], [], 0⟩) (fun _ => by kernel_rfl) fun _ => ?_
  refine g_end (by kernel_rfl) ?_
  refine n_then ?_
  refine g_seq ?_
  refine g_region ?_
  refine g_exec 1 [0, 1, 4, 5] [] [] (fun _ => ⟨[(0, .v (.slice A xs.length c)), (1, .v (.func (.func g) #[] lb.toArray)), (4, .v (.slice none 0 0)), (5, .v (.slice none 0 0))], [], [], 0⟩) (fun _ => by kernel_rfl) fun _ => ?_
  refine g_end (by kernel_rfl) ?_
  refine n_then ?_
  refine g_seq ?_
  refine g_seq ?_
  refine g_region ?_
  refine g_exec 3 [1, 4, 5, 8, 9, 10] [] [] (fun _ => ⟨[(1, .v (.func (.func g) #[] lb.toArray)), (4, .v (.slice none 0 0)), (5, .v (.slice none 0 0)), (8, .v (.slice A xs.length c)), (9, .v (.int .i64 ((xs.length : Nat) : Int))), (10, .v (.int .i64 0))], [], [], 0⟩) (fun _ => by kernel_rfl) fun _ => ?_
  refine g_end (by kernel_rfl) ?_
  refine n_then ?_
  refine g_block ?_
  refine g_newrow 0 53 2 rfl ?_
  refine g_fin [1, 4, 5, 8, 9, 10] [] [0] ⟨[(1, .v (.func (.func g) #[] lb.toArray)), (4, .v (.slice none 0 0)), (5, .v (.slice none 0 0)), (8, .v (.slice A xs.length c)), (9, .v (.int .i64 ((xs.length : Nat) : Int))), (10, .v (.int .i64 0))], [], [(0, ⟨.slice none 0 0, 53, 2, 0, []⟩)], 0⟩ (by kernel_rfl) ?_
  refine g_while (ι := Nat) (fun k M4 s => ∃ (v : Value) (cs : List Value), s = ⟨[(1, .v (.func (.func g) #[] lb.toArray)), (4, .v (.slice none 0 0)), (5, .v (v)), (8, .v (.slice A xs.length c)), (9, .v (.int .i64 ((xs.length : Nat) : Int))), (10, .v (.int .i64 (k : Int)))], [], [(0, ⟨v, 53, 2, k, cs⟩)], 0⟩ ∧ (k ≤ xs.length ∧ cs = ((xs.take k).map fun p => (do_ p.1, do_ p.2)).flatMap chP) ∧ (∀ a u, M a = some u → M4 a = some u)) (fun k => xs.length - k) 0 ⟨_, _, rfl, ⟨Nat.zero_le _, rfl⟩, (fun _ _ h => h)⟩ ?_
  rintro k M4 _ ⟨v, cs, rfl, ⟨hk, hcs⟩, le5⟩
  refine g_seq ?_
  refine g_region ?_
  refine g_exec 1 [1, 4, 5, 8, 9, 10, 11] [] [0] (fun _ => ⟨[(1, .v (.func (.func g) #[] lb.toArray)), (4, .v (.slice none 0 0)), (5, .v (v)), (8, .v (.slice A xs.length c)), (9, .v (.int .i64 ((xs.length : Nat) : Int))), (10, .v (.int .i64 (k : Int))), (11, .v (.bool (decide ((k : Int) < ((xs.length : Nat) : Int)))))], [], [(0, ⟨v, 53, 2, k, cs⟩)], 0⟩) (fun _ => by kernel_rfl) fun _ => ?_
  refine g_end (by kernel_rfl) ?_
  refine n_then ?_
  refine g_seq ?_
  refine g_cond (decide ((k : Int) < ((xs.length : Nat) : Int))) (by kernel_rfl) (fun hc7 => ?_) (fun hc7 => ?_)
  · replace hc7 := of_decide_eq_true hc7
    refine g_skip ?_
    refine n_then ?_
    refine g_seq ?_
    refine g_block ?_
    refine g_seq ?_
    refine g_region ?_
    obtain ⟨x11, hx11⟩ : ∃ p, xs[k]? = some p := ⟨_, List.getElem?_eq_getElem (show k < xs.length by omega)⟩
    obtain ⟨b9, o10, _, rfl, rfl, _, heb9⟩ := hrow.at hx11
    refine g_yld (y_index (dst := some 12) (b := b9) (o := o10) (len := xs.length) (kk := .i64) (ii := (k : Int)) (sz := 2) (by kernel_rfl) (by omega) (by omega)) ?_
    refine g_yld (y_loads (dst := some 13) (b := b9) (o := o10 + k * 2) (sz := 2) (by kernel_rfl) (cs := [.int .i64 x11.1, .int .i64 x11.2]) rfl (fun j v hj => le5 _ _ (heb9 j v hj))) ?_
    refine g_exec 2 [1, 4, 5, 7, 8, 9, 10] [0] [0] (fun f13 => ⟨[(1, .v (.func (.func g) #[] lb.toArray)), (4, .v (.slice none 0 0)), (5, .v (v)), (7, .l 0 (f13 2) 0), (8, .v (.slice (some ⟨b9, o10, none⟩) xs.length c)), (9, .v (.int .i64 ((xs.length : Nat) : Int))), (10, .v (.int .i64 (k : Int)))], [(0, .cells (f13 2) [.int .i64 x11.1, .int .i64 x11.2] 53)], [(0, ⟨v, 53, 2, k, cs⟩)], 1⟩) (fun _ => by kernel_rfl) fun f13 => ?_
    refine g_end (by kernel_rfl) ?_
    refine n_then ?_
    refine d_begin (by kernel_rfl) [0] [] 13 (by kernel_rfl) ?_
    refine dx_exec (fuel := 6) [0] [0, 1, 2, 3, 5, 6, 7] [1, 4, 5, 8, 9, 10, 14, 15, 17, 19, 21] [0] [0] [true, true, true, true, false, true, true, true, false, false, false, false, false] ⟨[(1, .v (.func (.func g) #[] lb.toArray)), (4, .v (.slice none 0 0)), (5, .v (v)), (8, .v (.slice (some ⟨b9, o10, none⟩) xs.length c)), (9, .v (.int .i64 ((xs.length : Nat) : Int))), (10, .v (.int .i64 (k : Int))), (14, .v (v)), (15, .v (.func (.func g) #[] lb.toArray)), (17, .v (.int .i64 x11.1)), (19, .v (.func (.func g) #[] lb.toArray)), (21, .v (.int .i64 x11.2))], [(0, .cells (f13 2) [.int .i64 x11.1, .int .i64 x11.2] 53)], [(0, ⟨v, 53, 2, k, cs⟩)], 1⟩ (by kernel_rfl) (fun _ _ h => h) (by kernel_rfl) (by kernel_rfl) ?_ rfl
    refine dx_op (fuel := 5) (i := 4) [true, true, true, true, true, true, true, true, false, false, false, false, false] (by kernel_rfl) (by kernel_rfl) ?_ rfl
    refine o_call (dst := some 18) (g := g) (args := ([.int .i64 x11.1] ++ lb)) (by kernel_rfl) hg (fun v _ => v = .int .i64 (do_ x11.1)) (by intro w hst; exact hdo _ _ hst.ext0 x11.1) ?_
    rintro _ M14 le15 rfl
    refine dx_know [0] (fun _ _ h => (le15 _ _ h)) (by kernel_rfl) ?_
    refine dx_op (fuel := 4) (i := 8) [true, true, true, true, true, true, true, true, true, false, false, false, false] (by kernel_rfl) (by kernel_rfl) ?_ rfl
    refine o_call (dst := some 22) (g := g) (args := ([.int .i64 x11.2] ++ lb)) (by kernel_rfl) hg (fun v _ => v = .int .i64 (do_ x11.2)) (by intro w hst; exact hdo _ _ hst.ext0 x11.2) ?_
    rintro _ M16 le17 rfl
    refine dx_know [0] (fun _ _ h => (le17 _ _ (le15 _ _ h))) (by kernel_rfl) ?_
    refine dx_exec (fuel := 3) [0] [9] [1, 4, 5, 8, 9, 10, 14, 23] [0] [0] [true, true, true, true, true, true, true, true, true, true, false, false, false] ⟨[(1, .v (.func (.func g) #[] lb.toArray)), (4, .v (.slice none 0 0)), (5, .v (v)), (8, .v (.slice (some ⟨b9, o10, none⟩) xs.length c)), (9, .v (.int .i64 ((xs.length : Nat) : Int))), (10, .v (.int .i64 (k : Int))), (14, .v (v)), (23, .v (.agg #[.int .i64 (do_ x11.1), .int .i64 (do_ x11.2)]))], [(0, .cells (f13 2) [.int .i64 x11.1, .int .i64 x11.2] 53)], [(0, ⟨v, 53, 2, k, cs⟩)], 1⟩ (by kernel_rfl) (fun _ _ h => (le17 _ _ (le15 _ _ h))) (by kernel_rfl) (by kernel_rfl) ?_ rfl
    refine dx_op (fuel := 2) (i := 10) [true, true, true, true, true, true, true, true, true, true, true, false, false] (by kernel_rfl) (by kernel_rfl) ?_ rfl
    refine o_step (used := true) (fun n18 => ⟨[(24, .v (.slice (some ⟨n18, 0, none⟩) 1 1)), (1, .v (.func (.func g) #[] lb.toArray)), (4, .v (.slice none 0 0)), (5, .v (v)), (8, .v (.slice (some ⟨b9, o10, none⟩) xs.length c)), (9, .v (.int .i64 ((xs.length : Nat) : Int))), (10, .v (.int .i64 (k : Int))), (14, .v (v)), (23, .v (.agg #[.int .i64 (do_ x11.1), .int .i64 (do_ x11.2)]))], [(1, .cells n18 [.int .i64 (do_ x11.1), .int .i64 (do_ x11.2)] 53), (0, .cells (f13 2) [.int .i64 x11.1, .int .i64 x11.2] 53)], [(0, ⟨v, 53, 2, k, cs⟩)], 2⟩) rfl (by kernel_rfl) (fun _ => by kernel_rfl) (fun n18 => ?_)
    refine dx_know [0] (fun _ _ h => (le17 _ _ (le15 _ _ h))) (by kernel_rfl) ?_
    refine dx_op (fuel := 1) (i := 11) [true, true, true, true, true, true, true, true, true, true, true, true, false] (by kernel_rfl) (by kernel_rfl) ?_ rfl
    refine o_append (dst := some 25) 0 1 1 (u := v) (row := ⟨v, 53, 2, k, cs⟩) (b := n18) (cs := [.int .i64 (do_ x11.1), .int .i64 (do_ x11.2)]) (bytes := 16) (by kernel_rfl) rfl rfl (by show (k + 1) * 16 ≤ 140737488355328; omega) (by show k + 1 ≤ 140737488355328; omega) ?_
    intro v19
    refine dx_know [0] (fun _ _ h => (le17 _ _ (le15 _ _ h))) (by kernel_rfl) ?_
    refine dx_exec (fuel := 0) [0] [12] [1, 4, 5, 8, 9, 10] [0] [0] [true, true, true, true, true, true, true, true, true, true, true, true, true] ⟨[(1, .v (.func (.func g) #[] lb.toArray)), (4, .v (.slice none 0 0)), (5, .v (v19)), (8, .v (.slice (some ⟨b9, o10, none⟩) xs.length c)), (9, .v (.int .i64 ((xs.length : Nat) : Int))), (10, .v (.int .i64 (k : Int)))], [(0, .cells (f13 2) [.int .i64 x11.1, .int .i64 x11.2] 53)], [(0, ⟨v19, 53, 2, k + 1, cs ++ [.int .i64 (do_ x11.1), .int .i64 (do_ x11.2)]⟩)], 1⟩ (by kernel_rfl) (fun _ _ h => (le17 _ _ (le15 _ _ h))) (by kernel_rfl) (by kernel_rfl) ?_ rfl
    refine d_end (by kernel_rfl) ?_
    refine n_block ?_
    refine n_then ?_
    refine g_region ?_
    refine g_exec 2 [1, 4, 5, 8, 9, 10] [] [0] (fun _ => ⟨[(1, .v (.func (.func g) #[] lb.toArray)), (4, .v (.slice none 0 0)), (5, .v (v19)), (8, .v (.slice (some ⟨b9, o10, none⟩) xs.length c)), (9, .v (.int .i64 ((xs.length : Nat) : Int))), (10, .v (.int .i64 (IntKind.i64.wrap ((k : Int) + 1))))], [], [(0, ⟨v19, 53, 2, k + 1, cs ++ [.int .i64 (do_ x11.1), .int .i64 (do_ x11.2)]⟩)], 0⟩) (fun _ => by kernel_rfl) fun _ => ?_
    refine g_end (by kernel_rfl) ?_
    refine n_then ?_
    refine g_val 10 (v := .int .i64 (IntKind.i64.wrap ((k : Int) + 1))) (.int .i64 ((k + 1 : Nat) : Int)) (by kernel_rfl) (by rw [wrapN k (by omega)]) ?_
    refine g_fin [1, 4, 5, 8, 9, 10] [] [0] ⟨[(1, .v (.func (.func g) #[] lb.toArray)), (4, .v (.slice none 0 0)), (5, .v (v19)), (8, .v (.slice (some ⟨b9, o10, none⟩) xs.length c)), (9, .v (.int .i64 ((xs.length : Nat) : Int))), (10, .v (.int .i64 ((k + 1 : Nat) : Int)))], [], [(0, ⟨v19, 53, 2, k + 1, cs ++ [.int .i64 (do_ x11.1), .int .i64 (do_ x11.2)]⟩)], 0⟩ (by kernel_rfl) ?_
    exact g_again (k + 1) ⟨_, _, rfl, ⟨by omega, by rw [take_succ_eq hx11, List.map_append, List.flatMap_append, hcs]; rfl⟩, (fun _ _ h => (le17 _ _ (le15 _ _ (le5 _ _ h))))⟩ (by omega)
  · replace hc7 := of_decide_eq_false hc7
    refine g_exit ?_
    refine n_then_exit ?_
    refine n_then_exit ?_
    refine n_block_exit ?_
    refine n_then ?_
    refine g_seq ?_
    refine g_region ?_
    refine g_exec 2 [4] [] [0] (fun _ => ⟨[(4, .v (v))], [], [(0, ⟨v, 53, 2, k, cs⟩)], 0⟩) (fun _ => by kernel_rfl) fun _ => ?_
    refine g_end (by kernel_rfl) ?_
    refine n_then ?_
    refine g_ret ?_
    refine g_pub 0 (by rfl) ?_
    intro MZ AZ cZ le22 hvAZ hnAZ hlAZ hmAZ
    have hvAZ : v = .slice AZ k cZ := hvAZ
    have hnAZ : k ≤ cZ := hnAZ
    have hkk : k = xs.length := by omega
    rw [hkk, List.take_length] at hcs
    exact n_post (v) (by kernel_rfl) ⟨AZ, cZ, by rw [hvAZ]; simp [hkk], by simpa [hkk] using hnAZ, row_pub (hcs ▸ Cells_flat (enc := chP) (sz := 2) (fun _ => rfl) _) (by simp [hkk]) hmAZ⟩
theorem shift1_calls {M : Mem} {w : World} (hM : Sat M w) (a n : Int) (b : Nat) (hbox : ∀ j u, ([.int .i64 n] : List Value)[j]? = some u → M ⟨b, j, none⟩ = some u) : Ct Tryz.prog 45 [.int .i64 a, .pointer (some ⟨b, 0, none⟩)] [] w M (fun v _ => v = .int .i64 (shiftA n a)) := by
  refine enter (n := 11) Tryz.func45 rfl rfl _ (by kernel_rfl) hM ?_
  refine g_seq ?_
  refine g_region ?_
  refine g_exec 1 [0, 1, 3] [] [] (fun _ => ⟨[(0, .v (.int .i64 a)), (1, .v (.pointer (some ⟨b, 0, none⟩))), (3, .v (.int .i64 0))], [], [], 0⟩) (fun _ => by kernel_rfl) fun _ => ?_
  refine g_end (by kernel_rfl) ?_
  refine n_then ?_
  refine g_seq ?_
  refine g_seq ?_
  refine g_region ?_
  refine g_exec 1 [0, 1, 3, 4] [] [] (fun _ => ⟨[(0, .v (.int .i64 a)), (1, .v (.pointer (some ⟨b, 0, none⟩))), (3, .v (.int .i64 0)), (4, .v (.int .i64 a))], [], [], 0⟩) (fun _ => by kernel_rfl) fun _ => ?_
  refine g_call (dst := some 5) (g := 27) (args := [.int .i64 a]) (by kernel_rfl) (by kernel_rfl) (fun v _ => v = .bool (isPt a)) (by intro w hst; exact isPoint_calls hst.sat a) ?_
  rintro _ M3 le4 rfl
  refine g_end (by kernel_rfl) ?_
  refine n_then ?_
  refine g_cond ((isPt a)) (by kernel_rfl) (fun hc6 => ?_) (fun hc6 => ?_)
  · refine g_seq ?_
    refine g_region ?_
    refine g_exec 2 [0, 1, 3] [] [] (fun _ => ⟨[(0, .v (.int .i64 a)), (1, .v (.pointer (some ⟨b, 0, none⟩))), (3, .v (.int .i64 a))], [], [], 0⟩) (fun _ => by kernel_rfl) fun _ => ?_
    refine g_end (by kernel_rfl) ?_
    refine n_then ?_
    refine g_ret ?_
    refine n_then_ret ?_
    exact n_post (.int .i64 a) (by kernel_rfl) (by first | rw [shiftA, if_pos (of_decide_eq_true (show decide (a < 0) = true from hc6))] | rw [shiftA, if_neg (of_decide_eq_false (show decide (a < 0) = false from hc6))])
  · refine g_skip ?_
    refine n_then ?_
    refine g_seq ?_
    refine g_region ?_
    refine g_exec 1 [1, 3, 7] [] [] (fun _ => ⟨[(1, .v (.pointer (some ⟨b, 0, none⟩))), (3, .v (.int .i64 0)), (7, .v (.int .i64 a))], [], [], 0⟩) (fun _ => by kernel_rfl) fun _ => ?_
    refine g_yld (y_load1 (dst := some 8) (ad := ⟨b, 0, none⟩) (sz := 1) (by kernel_rfl) (v := .int .i64 n) (le4 _ _ (hbox 0 _ rfl))) ?_
    refine g_exec 3 [3] [] [] (fun _ => ⟨[(3, .v (.int .i64 (if IntKind.i64.wrap (a + n) < 0 then 0 else IntKind.i64.wrap (a + n))))], [], [], 0⟩) (fun _ => by kernel_rfl) fun _ => ?_
    refine g_end (by kernel_rfl) ?_
    refine n_then ?_
    refine g_ret ?_
    exact n_post (.int .i64 (if IntKind.i64.wrap (a + n) < 0 then 0 else IntKind.i64.wrap (a + n))) (by kernel_rfl) (by first | rw [shiftA, if_pos (of_decide_eq_true (show decide (a < 0) = true from hc6))] | rw [shiftA, if_neg (of_decide_eq_false (show decide (a < 0) = false from hc6))])
theorem shift_calls {M : Mem} {w : World} (hM : Sat M w) (xs : List (Int × Int)) (A : Option Addr) (c : Nat) (hrow : Row (flat chP) 2 M A xs) (hlen : xs.length ≤ 274877906944) (n : Int) : Ct Tryz.prog 19 [.slice A xs.length c, .int .i64 n] [] w M (SlV chP 2 (xs.map fun p => (shiftA n p.1, shiftA n p.2))) := by
  refine enter (n := 8) Tryz.func19 rfl rfl _ (by kernel_rfl) hM ?_
  refine g_seq ?_
  refine g_region ?_
  refine g_exec 2 [0, 3, 4] [0] [] (fun f1 => ⟨[(0, .v (.slice A xs.length c)), (3, .l 0 (f1 0) 0), (4, .v (.slice none 0 0))], [(0, .cells (f1 0) [.int .i64 n] 3)], [], 1⟩) (fun _ => by kernel_rfl) fun f1 => ?_
  refine g_end (by kernel_rfl) ?_
  refine n_then ?_
  refine g_seq ?_
  refine g_region ?_
  refine g_exec 1 [3, 4, 5] [0] [] (fun _ => ⟨[(3, .l 0 (f1 0) 0), (4, .v (.slice none 0 0)), (5, .v (.slice A xs.length c))], [(0, .cells (f1 0) [.int .i64 n] 3)], [], 1⟩) (fun _ => by kernel_rfl) fun _ => ?_
  refine g_pubL 0 (b := (f1 0)) (t := 3) (cs := [.int .i64 n]) (by rfl) ?_
  intro M3 le4 hp5
  refine g_exec 1 [4, 5, 6] [] [] (fun _ => ⟨[(4, .v (.slice none 0 0)), (5, .v (.slice A xs.length c)), (6, .v (.func (.func 45) #[] #[.pointer (some ⟨(f1 0), 0, none⟩)]))], [], [], 0⟩) (fun _ => by kernel_rfl) fun _ => ?_
  refine g_call (dst := some 7) (g := 44) (args := [.slice A xs.length c, .func (.func 45) #[] #[.pointer (some ⟨(f1 0), 0, none⟩)]]) (by kernel_rfl) (by kernel_rfl) (SlV chP 2 (xs.map fun p => (shiftA n p.1, shiftA n p.2))) (by intro w hst; exact turned_calls hst.sat xs A c (hrow.le (fun _ _ h => (le4 _ _ h))) hlen (shiftA n) 45 [.pointer (some ⟨(f1 0), 0, none⟩)] (by kernel_rfl) (fun w' M' h x => shift1_calls h.sat x n (f1 0) (fun j u hj => h.le _ _ (hp5 j u hj)))) ?_
  rintro u M7 le8 hu
  refine g_exec 1 [4] [] [] (fun _ => ⟨[(4, .v (u))], [], [], 0⟩) (fun _ => by kernel_rfl) fun _ => ?_
  refine g_end (by kernel_rfl) ?_
  refine n_then ?_
  refine g_ret ?_
  exact n_post (u) (by kernel_rfl) hu
theorem index_calls {M : Mem} {w : World} (hM : Sat M w) (xs : List Int) (A : Option Addr) (c : Nat) (hrow : Row (flat chI) 1 M A xs) (hlen : xs.length ≤ 1099511627776) (a : Int) : CtL Tryz.prog 48 [.slice A xs.length c, .int .i64 a] [] w M (fun v M' Lo => Lo = [] ∧ ((v = .int .i64 (-1) ∧ ∀ y ∈ xs, y ≠ a) ∨ ∃ k : Nat, v = .int .i64 (k : Int) ∧ xs[k]? = some a ∧ ∀ y ∈ xs.take k, y ≠ a)) := by
  have hLent := Lent.nil (M := M) (w := w)
  refine enterL (n := 19) Tryz.func48 rfl rfl _ (by kernel_rfl) hM hLent ?_
  refine g_seq ?_
  refine g_region ?_
  refine g_exec 1 [0, 1, 4] [] [] (fun _ => ⟨[(0, .v (.slice A xs.length c)), (1, .v (.int .i64 a)), (4, .v (.int .i64 0))], [], [], 0⟩) (fun _ => by kernel_rfl) fun _ => ?_
  refine g_end (by kernel_rfl) ?_
  refine n_then ?_
  refine g_seq ?_
  refine g_seq ?_
  refine g_region ?_
  refine g_exec 3 [0, 1, 4, 7, 8] [] [] (fun _ => ⟨[(0, .v (.slice A xs.length c)), (1, .v (.int .i64 a)), (4, .v (.int .i64 0)), (7, .v (.int .i64 ((xs.length : Nat) : Int))), (8, .v (.int .i64 0))], [], [], 0⟩) (fun _ => by kernel_rfl) fun _ => ?_
  refine g_end (by kernel_rfl) ?_
  refine n_then ?_
  refine g_block ?_
  refine g_fin [0, 1, 4, 7, 8] [] [] ⟨[(0, .v (.slice A xs.length c)), (1, .v (.int .i64 a)), (4, .v (.int .i64 0)), (7, .v (.int .i64 ((xs.length : Nat) : Int))), (8, .v (.int .i64 0))], [], [], 0⟩ (by kernel_rfl) ?_
  refine g_while (ι := Nat) (fun k M3 s => s = ⟨[(0, .v (.slice A xs.length c)), (1, .v (.int .i64 a)), (4, .v (.int .i64 0)), (7, .v (.int .i64 ((xs.length : Nat) : Int))), (8, .v (.int .i64 (k : Int)))], [], [], 0⟩ ∧ (k ≤ xs.length ∧ ∀ y ∈ xs.take k, y ≠ a) ∧ (∀ a u, M a = some u → M3 a = some u)) (fun k => xs.length - k) 0 ⟨rfl, ⟨Nat.zero_le _, by simp⟩, (fun _ _ h => h)⟩ ?_
  rintro k M3 _ ⟨rfl, ⟨hk, hall⟩, le4⟩
  refine g_seq ?_
  refine g_region ?_
  refine g_exec 1 [0, 1, 4, 7, 8, 9] [] [] (fun _ => ⟨[(0, .v (.slice A xs.length c)), (1, .v (.int .i64 a)), (4, .v (.int .i64 0)), (7, .v (.int .i64 ((xs.length : Nat) : Int))), (8, .v (.int .i64 (k : Int))), (9, .v (.bool (decide ((k : Int) < ((xs.length : Nat) : Int)))))], [], [], 0⟩) (fun _ => by kernel_rfl) fun _ => ?_
  refine g_end (by kernel_rfl) ?_
  refine n_then ?_
  refine g_seq ?_
  refine g_cond (decide ((k : Int) < ((xs.length : Nat) : Int))) (by kernel_rfl) (fun hc6 => ?_) (fun hc6 => ?_)
  · replace hc6 := of_decide_eq_true hc6
    refine g_skip ?_
    refine n_then ?_
    refine g_seq ?_
    refine g_block ?_
    refine g_seq ?_
    refine g_region ?_
    refine g_exec 2 [0, 1, 4, 5, 7, 8] [] [] (fun _ => ⟨[(0, .v (.slice A xs.length c)), (1, .v (.int .i64 a)), (4, .v (.int .i64 0)), (5, .v (.int .i64 (k : Int))), (7, .v (.int .i64 ((xs.length : Nat) : Int))), (8, .v (.int .i64 (k : Int)))], [], [], 0⟩) (fun _ => by kernel_rfl) fun _ => ?_
    refine g_end (by kernel_rfl) ?_
    refine n_then ?_
    refine g_seq ?_
    refine g_region ?_
    refine g_exec 3 [0, 1, 4, 5, 7, 8, 11, 12, 13] [] [] (fun _ => ⟨[(0, .v (.slice A xs.length c)), (1, .v (.int .i64 a)), (4, .v (.int .i64 0)), (5, .v (.int .i64 (k : Int))), (7, .v (.int .i64 ((xs.length : Nat) : Int))), (8, .v (.int .i64 (k : Int))), (11, .v (.int .i64 a)), (12, .v (.slice A xs.length c)), (13, .v (.int .i64 (k : Int)))], [], [], 0⟩) (fun _ => by kernel_rfl) fun _ => ?_
    obtain ⟨x11, hx11⟩ : ∃ p, xs[k]? = some p := ⟨_, List.getElem?_eq_getElem (show k < xs.length by omega)⟩
    obtain ⟨b9, o10, _, rfl, rfl, _, heb9⟩ := hrow.at hx11
    refine g_yld (y_index (dst := some 14) (b := b9) (o := o10) (len := xs.length) (kk := .i64) (ii := (k : Int)) (sz := 1) (by kernel_rfl) (by omega) (by omega)) ?_
    refine g_yld (y_load1 (dst := some 15) (ad := ⟨b9, o10 + k * 1, none⟩) (sz := 1) (by kernel_rfl) (v := .int .i64 x11) (le4 _ _ (heb9 0 _ rfl))) ?_
    refine g_exec 1 [0, 1, 4, 5, 7, 8, 16] [] [] (fun _ => ⟨[(0, .v (.slice (some ⟨b9, o10, none⟩) xs.length c)), (1, .v (.int .i64 a)), (4, .v (.int .i64 0)), (5, .v (.int .i64 (k : Int))), (7, .v (.int .i64 ((xs.length : Nat) : Int))), (8, .v (.int .i64 (k : Int))), (16, .v (.bool (a == x11)))], [], [], 0⟩) (fun _ => by kernel_rfl) fun _ => ?_
    refine g_end (by kernel_rfl) ?_
    refine n_then ?_
    refine g_cond ((a == x11)) (by kernel_rfl) (fun hc14 => ?_) (fun hc14 => ?_)
    · replace hc14 := eq_of_beq hc14
      refine g_seq ?_
      refine g_region ?_
      refine g_exec 2 [0, 1, 4, 7, 8] [] [] (fun _ => ⟨[(0, .v (.slice (some ⟨b9, o10, none⟩) xs.length c)), (1, .v (.int .i64 a)), (4, .v (.int .i64 (k : Int))), (7, .v (.int .i64 ((xs.length : Nat) : Int))), (8, .v (.int .i64 (k : Int)))], [], [], 0⟩) (fun _ => by kernel_rfl) fun _ => ?_
      refine g_end (by kernel_rfl) ?_
      refine n_then ?_
      refine g_ret ?_
      refine n_block_ret ?_
      refine n_then_ret ?_
      refine n_then_ret ?_
      refine n_block_ret ?_
      refine n_then_ret ?_
      exact n_postL [] [] (by rfl) (.int .i64 (k : Int)) (by kernel_rfl) ⟨rfl, .inr ⟨k, rfl, by rw [hx11, hc14], hall⟩⟩
    · replace hc14 := ne_of_beq_false hc14
      refine g_skip ?_
      refine n_block ?_
      refine n_then ?_
      refine g_region ?_
      refine g_exec 2 [0, 1, 4, 7, 8] [] [] (fun _ => ⟨[(0, .v (.slice (some ⟨b9, o10, none⟩) xs.length c)), (1, .v (.int .i64 a)), (4, .v (.int .i64 0)), (7, .v (.int .i64 ((xs.length : Nat) : Int))), (8, .v (.int .i64 (IntKind.i64.wrap ((k : Int) + 1))))], [], [], 0⟩) (fun _ => by kernel_rfl) fun _ => ?_
      refine g_end (by kernel_rfl) ?_
      refine n_then ?_
      refine g_val 8 (v := .int .i64 (IntKind.i64.wrap ((k : Int) + 1))) (.int .i64 ((k + 1 : Nat) : Int)) (by kernel_rfl) (by rw [wrapN k (by omega)]) ?_
      refine g_fin [0, 1, 4, 7, 8] [] [] ⟨[(0, .v (.slice (some ⟨b9, o10, none⟩) xs.length c)), (1, .v (.int .i64 a)), (4, .v (.int .i64 0)), (7, .v (.int .i64 ((xs.length : Nat) : Int))), (8, .v (.int .i64 ((k + 1 : Nat) : Int)))], [], [], 0⟩ (by kernel_rfl) ?_
      exact g_again (k + 1) ⟨rfl, ⟨by omega, all_take_succ (p := fun y => y ≠ a) hall hx11 (Ne.symm hc14)⟩, (fun _ _ h => (le4 _ _ h))⟩ (by omega)
  · replace hc6 := of_decide_eq_false hc6
    refine g_exit ?_
    refine n_then_exit ?_
    refine n_then_exit ?_
    refine n_block_exit ?_
    refine n_then ?_
    refine g_seq ?_
    refine g_region ?_
    refine g_exec 1 [4] [] [] (fun _ => ⟨[(4, .v (.int .i64 (-1)))], [], [], 0⟩) (fun _ => by kernel_rfl) fun _ => ?_
    refine g_end (by kernel_rfl) ?_
    refine n_then ?_
    refine g_ret ?_
    exact n_postL [] [] (by rfl) (.int .i64 (-1)) (by kernel_rfl) ⟨rfl, .inl ⟨rfl, by rw [show k = xs.length by omega, List.take_length] at hall; exact hall⟩⟩
theorem rename1_calls {M : Mem} {w : World} (hM : Sat M w) (xs ys : List Int) (A A2 : Option Addr) (c c2 : Nat) (hrow : Row (flat chI) 1 M A xs) (hrow2 : Row (flat chI) 1 M A2 ys) (hlen : xs.length ≤ 1099511627776) (a : Int) (b b2 : Nat) (hbox : ∀ j u, ([.slice A xs.length c] : List Value)[j]? = some u → M ⟨b, j, none⟩ = some u) (hbox2 : ∀ j u, ([.slice A2 ys.length c2] : List Value)[j]? = some u → M ⟨b2, j, none⟩ = some u) : Ct Tryz.prog 47 [.int .i64 a, .pointer (some ⟨b, 0, none⟩), .pointer (some ⟨b2, 0, none⟩)] [] w M (fun v _ => v = .int .i64 (renA xs ys a)) := by
  refine enter (n := 22) Tryz.func47 rfl rfl _ (by kernel_rfl) hM ?_
  refine g_seq ?_
  refine g_region ?_
  refine g_exec 1 [0, 1, 2, 4] [] [] (fun _ => ⟨[(0, .v (.int .i64 a)), (1, .v (.pointer (some ⟨b, 0, none⟩))), (2, .v (.pointer (some ⟨b2, 0, none⟩))), (4, .v (.int .i64 0))], [], [], 0⟩) (fun _ => by kernel_rfl) fun _ => ?_
  refine g_end (by kernel_rfl) ?_
  refine n_then ?_
  refine g_seq ?_
  refine g_seq ?_
  refine g_region ?_
  refine g_yld (y_load1 (dst := some 6) (ad := ⟨b, 0, none⟩) (sz := 1) (by kernel_rfl) (v := .slice A xs.length c) (hbox 0 _ rfl)) ?_
  refine g_exec 1 [0, 2, 4, 6, 7] [] [] (fun _ => ⟨[(0, .v (.int .i64 a)), (2, .v (.pointer (some ⟨b2, 0, none⟩))), (4, .v (.int .i64 0)), (6, .v (.slice A xs.length c)), (7, .v (.int .i64 a))], [], [], 0⟩) (fun _ => by kernel_rfl) fun _ => ?_
  refine g_callL (dst := some 8) (g := 48) (args := [.slice A xs.length c, .int .i64 a]) [] [] (by kernel_rfl) (by kernel_rfl) (by kernel_rfl) (fun v M' Lo => Lo = [] ∧ ((v = .int .i64 (-1) ∧ ∀ y ∈ xs, y ≠ a) ∨ ∃ k : Nat, v = .int .i64 (k : Int) ∧ xs[k]? = some a ∧ ∀ y ∈ xs.take k, y ≠ a)) (by intro w hst hLe; exact index_calls hst.sat xs A c (hrow.le (fun _ _ h => h)) hlen a) ?_
  rintro v M4 Lo le5 ⟨rfl, (⟨rfl, hno⟩ | ⟨k, rfl, hk, hall⟩)⟩
  · refine g_exec 1 [0, 2, 4, 5] [] [] (fun _ => ⟨[(0, .v (.int .i64 a)), (2, .v (.pointer (some ⟨b2, 0, none⟩))), (4, .v (.int .i64 0)), (5, .v (.int .i64 (-1)))], [], [], 0⟩) (fun _ => by kernel_rfl) fun _ => ?_
    refine g_end (by kernel_rfl) ?_
    refine n_then ?_
    refine g_seq ?_
    refine g_region ?_
    refine g_exec 8 [0, 2, 4, 5, 16] [] [] (fun _ => ⟨[(0, .v (.int .i64 a)), (2, .v (.pointer (some ⟨b2, 0, none⟩))), (4, .v (.int .i64 0)), (5, .v (.int .i64 (-1))), (16, .v (.bool false))], [], [], 0⟩) (fun _ => by kernel_rfl) fun _ => ?_
    refine g_end (by kernel_rfl) ?_
    refine n_then ?_
    refine g_cond false (by kernel_rfl) (fun hc => ?_) (fun hc => ?_)
    · cases hc
    · refine g_skip ?_
      refine n_then ?_
      refine g_seq ?_
      refine g_region ?_
      refine g_exec 2 [4] [] [] (fun _ => ⟨[(4, .v (.int .i64 a))], [], [], 0⟩) (fun _ => by kernel_rfl) fun _ => ?_
      refine g_end (by kernel_rfl) ?_
      refine n_then ?_
      refine g_ret ?_
      exact n_post (.int .i64 a) (by kernel_rfl) (by rw [renA_no hno])
  · refine g_exec 1 [0, 2, 4, 5] [] [] (fun _ => ⟨[(0, .v (.int .i64 a)), (2, .v (.pointer (some ⟨b2, 0, none⟩))), (4, .v (.int .i64 0)), (5, .v (.int .i64 (k : Int)))], [], [], 0⟩) (fun _ => by kernel_rfl) fun _ => ?_
    refine g_end (by kernel_rfl) ?_
    refine n_then ?_
    refine g_seq ?_
    refine g_region ?_
    refine g_exec 3 [0, 2, 4, 5, 11] [] [] (fun _ => ⟨[(0, .v (.int .i64 a)), (2, .v (.pointer (some ⟨b2, 0, none⟩))), (4, .v (.int .i64 0)), (5, .v (.int .i64 (k : Int))), (11, .v (.bool (decide ((k : Int) ≥ 0))))], [], [], 0⟩) (fun _ => by kernel_rfl) fun _ => ?_
    refine g_bool 11 (decide ((k : Int) ≥ 0)) (by kernel_rfl) (fun hc11 => ?_) (fun hc11 => ?_)
    · replace hc11 := of_decide_eq_true hc11
      refine g_exec 1 [0, 2, 4, 5, 11, 12] [] [] (fun _ => ⟨[(0, .v (.int .i64 a)), (2, .v (.pointer (some ⟨b2, 0, none⟩))), (4, .v (.int .i64 0)), (5, .v (.int .i64 (k : Int))), (11, .v (.bool true)), (12, .v (.int .i64 (k : Int)))], [], [], 0⟩) (fun _ => by kernel_rfl) fun _ => ?_
      refine g_yld (y_load1 (dst := some 13) (ad := ⟨b2, 0, none⟩) (sz := 1) (by kernel_rfl) (v := .slice A2 ys.length c2) (le5 _ _ (hbox2 0 _ rfl))) ?_
      refine g_exec 3 [0, 2, 4, 5, 16] [] [] (fun _ => ⟨[(0, .v (.int .i64 a)), (2, .v (.pointer (some ⟨b2, 0, none⟩))), (4, .v (.int .i64 0)), (5, .v (.int .i64 (k : Int))), (16, .v (.bool (decide ((k : Int) < ((ys.length : Nat) : Int)))))], [], [], 0⟩) (fun _ => by kernel_rfl) fun _ => ?_
      refine g_end (by kernel_rfl) ?_
      refine n_then ?_
      refine g_cond (decide ((k : Int) < ((ys.length : Nat) : Int))) (by kernel_rfl) (fun hc14 => ?_) (fun hc14 => ?_)
      · replace hc14 := of_decide_eq_true hc14
        refine g_seq ?_
        refine g_region ?_
        refine g_yld (y_load1 (dst := some 17) (ad := ⟨b2, 0, none⟩) (sz := 1) (by kernel_rfl) (v := .slice A2 ys.length c2) (le5 _ _ (hbox2 0 _ rfl))) ?_
        refine g_exec 1 [0, 4, 17, 18] [] [] (fun _ => ⟨[(0, .v (.int .i64 a)), (4, .v (.int .i64 0)), (17, .v (.slice A2 ys.length c2)), (18, .v (.int .i64 (k : Int)))], [], [], 0⟩) (fun _ => by kernel_rfl) fun _ => ?_
        obtain ⟨x19, hx19⟩ : ∃ p, ys[k]? = some p := ⟨_, List.getElem?_eq_getElem (show k < ys.length by omega)⟩
        obtain ⟨b17, o18, _, rfl, rfl, _, heb17⟩ := hrow2.at hx19
        refine g_yld (y_index (dst := some 19) (b := b17) (o := o18) (len := ys.length) (kk := .i64) (ii := (k : Int)) (sz := 1) (by kernel_rfl) (by omega) (by omega)) ?_
        refine g_yld (y_load1 (dst := some 20) (ad := ⟨b17, o18 + k * 1, none⟩) (sz := 1) (by kernel_rfl) (v := .int .i64 x19) (le5 _ _ (heb17 0 _ rfl))) ?_
        refine g_exec 1 [0, 4] [] [] (fun _ => ⟨[(0, .v (.int .i64 a)), (4, .v (.int .i64 x19))], [], [], 0⟩) (fun _ => by kernel_rfl) fun _ => ?_
        refine g_end (by kernel_rfl) ?_
        refine n_then ?_
        refine g_ret ?_
        refine n_then_ret ?_
        exact n_post (.int .i64 x19) (by kernel_rfl) (by rw [renA_in hk hall hx19])
      · replace hc14 := of_decide_eq_false hc14
        refine g_skip ?_
        refine n_then ?_
        refine g_seq ?_
        refine g_region ?_
        refine g_exec 2 [4] [] [] (fun _ => ⟨[(4, .v (.int .i64 a))], [], [], 0⟩) (fun _ => by kernel_rfl) fun _ => ?_
        refine g_end (by kernel_rfl) ?_
        refine n_then ?_
        refine g_ret ?_
        exact n_post (.int .i64 a) (by kernel_rfl) (by rw [renA_out hk hall (by omega)])
    · replace hc11 := of_decide_eq_false hc11
      refine g_exec 5 [0, 2, 4, 5, 16] [] [] (fun _ => ⟨[(0, .v (.int .i64 a)), (2, .v (.pointer (some ⟨b2, 0, none⟩))), (4, .v (.int .i64 0)), (5, .v (.int .i64 (k : Int))), (16, .v (.bool false))], [], [], 0⟩) (fun _ => by kernel_rfl) fun _ => ?_
      refine g_end (by kernel_rfl) ?_
      refine n_then ?_
      refine g_cond false (by kernel_rfl) (fun hc => ?_) (fun hc => ?_)
      · cases hc
      · refine g_skip ?_
        refine n_then ?_
        refine g_seq ?_
        refine g_region ?_
        refine g_exec 2 [4] [] [] (fun _ => ⟨[(4, .v (.int .i64 a))], [], [], 0⟩) (fun _ => by kernel_rfl) fun _ => ?_
        refine g_end (by kernel_rfl) ?_
        refine n_then ?_
        refine g_ret ?_
        exact n_post (.int .i64 a) (by kernel_rfl) (by rw [renA_out hk hall (by omega)])
theorem rename_calls {M : Mem} {w : World} (hM : Sat M w) (l : List (Int × Int)) (A0 : Option Addr) (c0 : Nat) (hrow0 : Row (flat chP) 2 M A0 l) (hlen0 : l.length ≤ 274877906944) (xs ys : List Int) (A A2 : Option Addr) (c c2 : Nat) (hrow : Row (flat chI) 1 M A xs) (hrow2 : Row (flat chI) 1 M A2 ys) (hlen : xs.length ≤ 1099511627776) : Ct Tryz.prog 21 [.slice A0 l.length c0, .slice A xs.length c, .slice A2 ys.length c2] [] w M (SlV chP 2 (l.map fun p => (renA xs ys p.1, renA xs ys p.2))) := by
  refine enter (n := 10) Tryz.func21 rfl rfl _ (by kernel_rfl) hM ?_
  refine g_seq ?_
  refine g_region ?_
  refine g_exec 3 [0, 4, 5, 6] [0, 1] [] (fun f1 => ⟨[(0, .v (.slice A0 l.length c0)), (4, .l 0 (f1 0) 0), (5, .l 1 (f1 1) 0), (6, .v (.slice none 0 0))], [(1, .cells (f1 1) [.slice A2 ys.length c2] 23), (0, .cells (f1 0) [.slice A xs.length c] 23)], [], 2⟩) (fun _ => by kernel_rfl) fun f1 => ?_
  refine g_end (by kernel_rfl) ?_
  refine n_then ?_
  refine g_seq ?_
  refine g_region ?_
  refine g_exec 1 [4, 5, 6, 7] [0, 1] [] (fun _ => ⟨[(4, .l 0 (f1 0) 0), (5, .l 1 (f1 1) 0), (6, .v (.slice none 0 0)), (7, .v (.slice A0 l.length c0))], [(1, .cells (f1 1) [.slice A2 ys.length c2] 23), (0, .cells (f1 0) [.slice A xs.length c] 23)], [], 2⟩) (fun _ => by kernel_rfl) fun _ => ?_
  refine g_pubL 0 (b := (f1 0)) (t := 23) (cs := [.slice A xs.length c]) (by rfl) ?_
  intro M3 le4 hp5
  refine g_pubL 1 (b := (f1 1)) (t := 23) (cs := [.slice A2 ys.length c2]) (by rfl) ?_
  intro M6 le7 hp8
  refine g_exec 1 [6, 7, 8] [] [] (fun _ => ⟨[(6, .v (.slice none 0 0)), (7, .v (.slice A0 l.length c0)), (8, .v (.func (.func 47) #[] #[.pointer (some ⟨(f1 0), 0, none⟩), .pointer (some ⟨(f1 1), 0, none⟩)]))], [], [], 0⟩) (fun _ => by kernel_rfl) fun _ => ?_
  refine g_call (dst := some 9) (g := 44) (args := [.slice A0 l.length c0, .func (.func 47) #[] #[.pointer (some ⟨(f1 0), 0, none⟩), .pointer (some ⟨(f1 1), 0, none⟩)]]) (by kernel_rfl) (by kernel_rfl) (SlV chP 2 (l.map fun p => (renA xs ys p.1, renA xs ys p.2))) (by intro w hst; exact turned_calls hst.sat l A0 c0 (hrow0.le (fun _ _ h => (le7 _ _ (le4 _ _ h)))) hlen0 (renA xs ys) 47 [.pointer (some ⟨(f1 0), 0, none⟩), .pointer (some ⟨(f1 1), 0, none⟩)] (by kernel_rfl) (fun w' M' h x => rename1_calls h.sat xs ys A A2 c c2 ((hrow.le (fun _ _ h => (le7 _ _ (le4 _ _ h)))).le h.le) ((hrow2.le (fun _ _ h => (le7 _ _ (le4 _ _ h)))).le h.le) hlen x (f1 0) (f1 1) (fun j u hj => h.le _ _ (le7 _ _ (hp5 j u hj))) (fun j u hj => h.le _ _ (hp8 j u hj)))) ?_
  rintro u M10 le11 hu
  refine g_exec 1 [6] [] [] (fun _ => ⟨[(6, .v (u))], [], [], 0⟩) (fun _ => by kernel_rfl) fun _ => ?_
  refine g_end (by kernel_rfl) ?_
  refine n_then ?_
  refine g_ret ?_
  exact n_post (u) (by kernel_rfl) hu
end Go.Ch
