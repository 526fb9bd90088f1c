import Derived.Test.YtpnkncinmoogpaaGreatDoorTAdapt
set_option linter.unusedVariables false
namespace Go.Ch
open Go Go.Eng Go.Proofs
def law10_AtomNorm_l2 (r16 : (List (Int × Int))) (x46 : Int × Int) : Nat → Bool → Int → Option (Bool)
  | 0, _, _ => none
  | q + 1, met65, k66 => (if k66 < (r16.length : Int) then (if met65 = true then law10_AtomNorm_l2 r16 x46 q true (IntKind.i64.wrap (k66 + 1)) else ((idx r16 k66)).bind fun x79 => law10_AtomNorm_l2 r16 x46 q ((x79.1 == x46.1) && ((x79.2 == x46.2) && true)) (IntKind.i64.wrap (k66 + 1))) else some met65)
def law10_AtomNorm_l1 (k0 : Nat) (l1 : List (Int × Int)) (r16 : (List (Int × Int))) : Nat → (List (Int × Int)) → Int → Option ((Bool) ⊕ ((List (Int × Int))))
  | 0, _, _ => none
  | q + 1, turned28, i32 => (if i32 < (l1.length : Int) then ((idx l1 i32)).bind fun x46 => ((apd 16 ([x46, x46] : List (Int × Int)) turned28)).bind fun ys54 => (law10_AtomNorm_l2 r16 x46 k0 (x46.1 == x46.2) 0).bind (fun met73 => (if met73 = true then law10_AtomNorm_l1 k0 l1 r16 q ys54 (IntKind.i64.wrap (i32 + 1)) else some (.inl false))) else some (.inr turned28))
def law10_AtomNorm_l3 (r16 : (List (Int × Int))) : Nat → Int → Option ((Bool) ⊕ (Unit))
  | 0, _ => none
  | q + 1, k99 => (if k99 < (r16.length : Int) then ((idx r16 k99)).bind fun x109 => (if x109.1 = x109.2 then some (.inl false) else (if k99 > 0 then ((idx r16 (IntKind.i64.wrap (k99 - 1)))).bind fun x118 => (if x118.1 > x109.1 then some (.inl false) else (if x118.1 = x109.1 then (if x118.2 ≥ x109.2 then some (.inl false) else law10_AtomNorm_l3 r16 q (IntKind.i64.wrap (k99 + 1))) else law10_AtomNorm_l3 r16 q (IntKind.i64.wrap (k99 + 1)))) else law10_AtomNorm_l3 r16 q (IntKind.i64.wrap (k99 + 1)))) else some (.inr ()))
def law10_AtomNorm (k : Nat) (l1 : List (Int × Int)) : Option (Bool) := ((exP)).bind fun r7 => (if r7 = true then ((normP l1)).bind fun r16 => (law10_AtomNorm_l1 k l1 r16 k [] 0).bind (orOn some (fun turned39 => (law10_AtomNorm_l3 r16 k 0).bind (orOn some (fun _ => (if r7 = true then ((normP r16)).bind fun r135 => ((law10_same k r135 r16)).bind fun r143 => (if r143 = true then ((normP turned39)).bind fun r150 => ((law10_same k r150 r16)).bind fun r158 => (if r158 = true then some (decide ((r16.length : Int) ≤ (l1.length : Int))) else some false) else some false) else some false))))) else some false)
theorem law10_AtomNorm_calls (k : Nat) {M : Mem} {w : World} (hM : Sat M w) (hT : TabW w) (l1 : List (Int × Int)) (A2 : Option Addr) (c3 : Nat) (hA4 : SlF (fl chP) 2 M A2 l1 c3) {r : Bool} (h : law10_AtomNorm k l1 = some r) : Ct Tryz.prog 5 [.slice A2 l1.length c3] [] w M (fun v _ => v = .bool r) := by
  unfold law10_AtomNorm at h
  refine enter (n := 146) Tryz.func5 rfl rfl _ (by kernel_rfl) hM ?_
  refine g_seq ?_
  refine g_region ?_
  refine g_exec 1 [0] [] [] (fun _ => ⟨[(0, .v (.slice A2 l1.length c3))], [], [], 0⟩) (fun _ => by kernel_rfl) fun _ => ?_
  refine g_end (by kernel_rfl) ?_
  refine n_then ?_
  refine g_seq ?_
  refine g_region ?_
  obtain ⟨r7, h8, h⟩ := bind_t h
  refine g_call (dst := some 10) (g := 9) (args := []) (by kernel_rfl) (by kernel_rfl) (fun v _ => v = .bool r7) (by intro w hst; exact exP_calls hst.sat (hT.ext hst.ext0)  h8) ?_
  rintro _ M9 le10 rfl
  refine g_exec 1 [0, 3] [] [] (fun _ => ⟨[(0, .v (.slice A2 l1.length c3)), (3, .v (.bool r7))], [], [], 0⟩) (fun _ => by kernel_rfl) fun _ => ?_
  refine g_end (by kernel_rfl) ?_
  refine n_then ?_
  refine g_seq ?_
  refine g_seq ?_
  refine g_region ?_
  refine g_exec 2 [0, 3, 12] [] [] (fun _ => ⟨[(0, .v (.slice A2 l1.length c3)), (3, .v (.bool r7)), (12, .v (.bool (!r7)))], [], [], 0⟩) (fun _ => by kernel_rfl) fun _ => ?_
  refine g_end (by kernel_rfl) ?_
  refine n_then ?_
  refine g_cond (!r7) (by kernel_rfl) (fun hc13 => ?_) (fun hc13 => ?_)
  · replace h := if_f (ne_t (bnot_t hc13)) h
    refine g_seq ?_
    refine g_region ?_
    refine g_exec 1 [2] [] [] (fun _ => ⟨[(2, .v (.bool false))], [], [], 0⟩) (fun _ => by kernel_rfl) fun _ => ?_
    refine g_end (by kernel_rfl) ?_
    refine n_then ?_
    refine g_ret ?_
    refine n_then_ret ?_
    obtain rfl := some_inj h
    exact n_post (.bool false) (by kernel_rfl) rfl
  · replace h := if_t (bnot_f hc13) h
    refine g_skip ?_
    refine n_then ?_
    refine g_seq ?_
    refine g_region ?_
    refine g_exec 1 [0, 3, 13] [] [] (fun _ => ⟨[(0, .v (.slice A2 l1.length c3)), (3, .v (.bool r7)), (13, .v (.slice A2 l1.length c3))], [], [], 0⟩) (fun _ => by kernel_rfl) fun _ => ?_
    obtain ⟨r16, h17, h⟩ := bind_t h
    refine g_call (dst := some 14) (g := 17) (args := [.slice A2 l1.length c3]) (by kernel_rfl) (by kernel_rfl) (fun v M' => ∃ (A1 : Option Addr) (c2 : Nat), v = .slice A1 r16.length c2 ∧ SlF (fl chP) 2 M' A1 r16 c2) (by intro w hst; exact normP_calls hst.sat l1 A2 c3 (SlF.le hA4 le10) h17) ?_
    rintro _ M18 le19 ⟨A20, c21, rfl, hA22⟩
    refine g_exec 1 [0, 3, 4] [] [] (fun _ => ⟨[(0, .v (.slice A2 l1.length c3)), (3, .v (.bool r7)), (4, .v (.slice A20 r16.length c21))], [], [], 0⟩) (fun _ => by kernel_rfl) fun _ => ?_
    refine g_end (by kernel_rfl) ?_
    refine n_then ?_
    refine g_seq ?_
    refine g_region ?_
    refine g_exec 1 [0, 3, 4, 5] [] [] (fun _ => ⟨[(0, .v (.slice A2 l1.length c3)), (3, .v (.bool r7)), (4, .v (.slice A20 r16.length c21)), (5, .v (.slice none 0 0))], [], [], 0⟩) (fun _ => by kernel_rfl) fun _ => ?_
    refine g_end (by kernel_rfl) ?_
    refine n_then ?_
    refine g_seq ?_
    refine g_seq ?_
    refine g_region ?_
    refine g_exec 1 [0, 3, 4, 5, 6] [] [] (fun _ => ⟨[(0, .v (.slice A2 l1.length c3)), (3, .v (.bool r7)), (4, .v (.slice A20 r16.length c21)), (5, .v (.slice none 0 0)), (6, .v (.int .i64 0))], [], [], 0⟩) (fun _ => by kernel_rfl) fun _ => ?_
    refine g_end (by kernel_rfl) ?_
    refine n_then ?_
    refine g_fin [0, 3, 4, 5, 6] [] [] ⟨[(0, .v (.slice A2 l1.length c3)), (3, .v (.bool r7)), (4, .v (.slice A20 r16.length c21)), (5, .v (.slice none 0 0)), (6, .v (.int .i64 0))], [], [], 0⟩ (by kernel_rfl) ?_
    obtain ⟨t36, h43, h⟩ := bind_t h
    refine g_blockJ (fun M37 s => ∃ (turned39 : List (Int × Int)) (A40 : Option Addr) (c41 : Nat), s = ⟨[(0, .v (.slice A2 l1.length c3)), (3, .v (.bool r7)), (4, .v (.slice A20 r16.length c21)), (5, .v (.slice A40 turned39.length c41))], [], [], 0⟩ ∧ SlF (fl chP) 2 M37 A40 turned39 c41 ∧ .inr turned39 = t36 ∧ (∀ a u, M18 a = some u → M37 a = some u)) ?_ ?_
    · refine g_while (ι := Nat) (fun q33 M26 s => ∃ (turned28 : List (Int × Int)) (A29 : Option Addr) (c30 : Nat) (i32 : Int), s = ⟨[(0, .v (.slice A2 l1.length c3)), (3, .v (.bool r7)), (4, .v (.slice A20 r16.length c21)), (5, .v (.slice A29 turned28.length c30)), (6, .v (.int .i64 i32))], [], [], 0⟩ ∧ SlF (fl chP) 2 M26 A29 turned28 c30 ∧ law10_AtomNorm_l1 k l1 r16 q33 turned28 i32 = some t36 ∧ (∀ a u, M18 a = some u → M26 a = some u)) (fun q33 => q33) k ⟨[], none, 0, 0, rfl, SlF.nil, h43, (fun _ _ h => h)⟩ ?_
      rintro q33 M26 _ ⟨turned28, A29, c30, i32, rfl, hA31, hl35, le27⟩
      obtain _ | q33 := q33
      · cases hl35
      · rw [law10_AtomNorm_l1] at hl35
        refine g_seq ?_
        refine g_seq ?_
        refine g_region ?_
        refine g_exec 4 [0, 3, 4, 5, 6, 18] [] [] (fun _ => ⟨[(0, .v (.slice A2 l1.length c3)), (3, .v (.bool r7)), (4, .v (.slice A20 r16.length c21)), (5, .v (.slice A29 turned28.length c30)), (6, .v (.int .i64 i32)), (18, .v (.bool (decide (i32 < (l1.length : Int)))))], [], [], 0⟩) (fun _ => by kernel_rfl) fun _ => ?_
        refine g_end (by kernel_rfl) ?_
        refine n_then ?_
        refine g_cond (decide (i32 < (l1.length : Int))) (by kernel_rfl) (fun hc45 => ?_) (fun hc45 => ?_)
        · replace hl35 := if_t (of_decide_eq_true hc45) hl35
          refine g_skip ?_
          refine n_then ?_
          refine g_seq ?_
          refine g_block ?_
          refine g_seq ?_
          refine d_begin (by kernel_rfl) [] [] 12 (by kernel_rfl) ?_
          refine dx_exec (fuel := 7) [] [0, 1, 4, 5, 9] [0, 3, 4, 5, 6, 21, 22, 25, 26, 30] [] [] [true, true, false, false, true, true, false, false, false, true, false, false] ⟨[(0, .v (.slice A2 l1.length c3)), (3, .v (.bool r7)), (4, .v (.slice A20 r16.length c21)), (5, .v (.slice A29 turned28.length c30)), (6, .v (.int .i64 i32)), (21, .v (.slice A2 l1.length c3)), (22, .v (.int .i64 i32)), (25, .v (.slice A2 l1.length c3)), (26, .v (.int .i64 i32)), (30, .v (.slice A29 turned28.length c30))], [], [], 0⟩ (by kernel_rfl) (fun _ _ h => h) (by kernel_rfl) (by kernel_rfl) ?_ rfl
          obtain ⟨x46, h47, hl35⟩ := bind_t hl35
          obtain ⟨b48, o49, _, hA50, rfl, hc51⟩ := SlF.at hA4 h47
          refine dx_yld (fuel := 6) (i := 2) [] [true, true, true, false, true, true, false, false, false, true, false, false] (by kernel_rfl) (fun _ _ h => h) (by kernel_rfl) (y_indexA (dst := some 23) (A := A2) (len := l1.length) (kk := .i64) (ii := i32) (sz := 2) (by kernel_rfl) hA50 (xs := l1) rfl h47) (by kernel_rfl) (by kernel_rfl) ?_ rfl
          refine dx_yld (fuel := 5) (i := 3) [] [true, true, true, true, true, true, false, false, false, true, false, false] (by kernel_rfl) (fun _ _ h => h) (by kernel_rfl) (y_loads (dst := some 24) (b := b48) (o := o49 + (i32).toNat * 2) (sz := 2) (by kernel_rfl) (cs := [.int .i64 x46.1, .int .i64 x46.2]) rfl (fun j v hj => le27 _ _ (le19 _ _ (le10 _ _ (hc51 j v hj))))) (by kernel_rfl) (by kernel_rfl) ?_ rfl
          refine dx_yld (fuel := 4) (i := 6) [] [true, true, true, true, true, true, true, false, false, true, false, false] (by kernel_rfl) (fun _ _ h => h) (by kernel_rfl) (y_indexA (dst := some 27) (A := A2) (len := l1.length) (kk := .i64) (ii := i32) (sz := 2) (by kernel_rfl) hA50 (xs := l1) rfl h47) (by kernel_rfl) (by kernel_rfl) ?_ rfl
          refine dx_yld (fuel := 3) (i := 7) [] [true, true, true, true, true, true, true, true, false, true, false, false] (by kernel_rfl) (fun _ _ h => h) (by kernel_rfl) (y_loads (dst := some 28) (b := b48) (o := o49 + (i32).toNat * 2) (sz := 2) (by kernel_rfl) (cs := [.int .i64 x46.1, .int .i64 x46.2]) rfl (fun j v hj => le27 _ _ (le19 _ _ (le10 _ _ (hc51 j v hj))))) (by kernel_rfl) (by kernel_rfl) ?_ rfl
          refine dx_op (fuel := 2) (i := 8) [true, true, true, true, true, true, true, true, true, true, false, false] (by kernel_rfl) (by kernel_rfl) ?_ rfl
          refine o_step (used := true) (fun f52 => ⟨[(29, .v (.slice (some ⟨f52, 0, none⟩) 2 2)), (28, .v (.agg #[.int .i64 x46.1, .int .i64 x46.2])), (27, .v (.pointer (some ⟨b48, o49 + (i32).toNat * 2, none⟩))), (24, .v (.agg #[.int .i64 x46.1, .int .i64 x46.2])), (23, .v (.pointer (some ⟨b48, o49 + (i32).toNat * 2, none⟩))), (0, .v (.slice A2 l1.length c3)), (3, .v (.bool r7)), (4, .v (.slice A20 r16.length c21)), (5, .v (.slice A29 turned28.length c30)), (6, .v (.int .i64 i32)), (21, .v (.slice A2 l1.length c3)), (22, .v (.int .i64 i32)), (25, .v (.slice A2 l1.length c3)), (26, .v (.int .i64 i32)), (30, .v (.slice A29 turned28.length c30))], [(0, .cells f52 [.int .i64 x46.1, .int .i64 x46.2, .int .i64 x46.1, .int .i64 x46.2] 53)], [], 1⟩) rfl (by kernel_rfl) (fun _ => by kernel_rfl) (fun f52 => ?_)
          refine dx_know [] (fun _ _ h => h) (by kernel_rfl) ?_
          refine g_rowL 0 0 2 2 2 (b := f52) (t := 53) (cs := [.int .i64 x46.1, .int .i64 x46.2, .int .i64 x46.1, .int .i64 x46.2]) (by rfl) (by rfl) (by decide) rfl (by decide) ?_
          have hcl53 : Cells ((fl chP) M26) 2 ([x46, x46] : List (Int × Int)) [.int .i64 x46.1, .int .i64 x46.2, .int .i64 x46.1, .int .i64 x46.2] := Cells.cons (rep := (fl chP) M26) (sz := 2) (x := x46) (c := [.int .i64 x46.1, .int .i64 x46.2]) (rfl) rfl (Cells.cons (rep := (fl chP) M26) (sz := 2) (x := x46) (c := [.int .i64 x46.1, .int .i64 x46.2]) (rfl) rfl (Cells.nil'))
          obtain ⟨ys54, h60, hl35⟩ := bind_t hl35
          refine dx_op (fuel := 1) (i := 10) [true, true, true, true, true, true, true, true, true, true, true, false] (by kernel_rfl) (by kernel_rfl) ?_ rfl
          refine o_appendS (dst := some 31) 0 (u := .slice (some ⟨f52, 0, none⟩) 2 2) (row := ⟨.slice (some ⟨f52, 0, none⟩) 2 2, 53, 2, 2, (List.take (2 * 2) [.int .i64 x46.1, .int .i64 x46.2, .int .i64 x46.1, .int .i64 x46.2])⟩) (A := A29) (c := c30) (bytes := 16) (by kernel_rfl) rfl (rep := (fl chP)) hA31 hcl53 rfl h60 ?_
          intro v55 cs61 hcl56 hn57
          refine dx_know [] (fun _ _ h => h) (by kernel_rfl) ?_
          refine dx_exec (fuel := 0) [] [11] [0, 3, 4, 5, 6] [] [0] [true, true, true, true, true, true, true, true, true, true, true, true] ⟨[(0, .v (.slice A2 l1.length c3)), (3, .v (.bool r7)), (4, .v (.slice A20 r16.length c21)), (5, .v (v55)), (6, .v (.int .i64 i32))], [], [(0, ⟨v55, 53, 2, 2 + turned28.length, (List.take (2 * 2) [.int .i64 x46.1, .int .i64 x46.2, .int .i64 x46.1, .int .i64 x46.2]) ++ cs61⟩)], 0⟩ (by kernel_rfl) (fun _ _ h => h) (by kernel_rfl) (by kernel_rfl) ?_ rfl
          refine d_end (by kernel_rfl) ?_
          refine n_then ?_
          refine g_seq ?_
          refine d_begin (by kernel_rfl) [] [] 12 (by kernel_rfl) ?_
          refine dx_exec (fuel := 8) [] [0, 1, 5, 6] [0, 3, 4, 5, 6, 32, 33, 37, 38] [] [0] [true, true, false, false, false, true, true, false, false, false, false, false] ⟨[(0, .v (.slice A2 l1.length c3)), (3, .v (.bool r7)), (4, .v (.slice A20 r16.length c21)), (5, .v (v55)), (6, .v (.int .i64 i32)), (32, .v (.slice A2 l1.length c3)), (33, .v (.int .i64 i32)), (37, .v (.slice A2 l1.length c3)), (38, .v (.int .i64 i32))], [], [(0, ⟨v55, 53, 2, 2 + turned28.length, (List.take (2 * 2) [.int .i64 x46.1, .int .i64 x46.2, .int .i64 x46.1, .int .i64 x46.2]) ++ cs61⟩)], 0⟩ (by kernel_rfl) (fun _ _ h => h) (by kernel_rfl) (by kernel_rfl) ?_ rfl
          refine dx_yld (fuel := 7) (i := 2) [] [true, true, true, false, false, true, true, false, false, false, false, false] (by kernel_rfl) (fun _ _ h => h) (by kernel_rfl) (y_indexA (dst := some 34) (A := A2) (len := l1.length) (kk := .i64) (ii := i32) (sz := 2) (by kernel_rfl) hA50 (xs := l1) rfl h47) (by kernel_rfl) (by kernel_rfl) ?_ rfl
          refine dx_exec (fuel := 6) [] [3] [0, 3, 4, 5, 6, 35, 37, 38] [] [0] [true, true, true, true, false, true, true, false, false, false, false, false] ⟨[(0, .v (.slice A2 l1.length c3)), (3, .v (.bool r7)), (4, .v (.slice A20 r16.length c21)), (5, .v (v55)), (6, .v (.int .i64 i32)), (35, .v (.pointer (some ⟨b48, o49 + (i32).toNat * 2, none⟩))), (37, .v (.slice A2 l1.length c3)), (38, .v (.int .i64 i32))], [], [(0, ⟨v55, 53, 2, 2 + turned28.length, (List.take (2 * 2) [.int .i64 x46.1, .int .i64 x46.2, .int .i64 x46.1, .int .i64 x46.2]) ++ cs61⟩)], 0⟩ (by kernel_rfl) (fun _ _ h => h) (by kernel_rfl) (by kernel_rfl) ?_ rfl
          refine dx_yld (fuel := 5) (i := 4) [] [true, true, true, true, true, true, true, false, false, false, false, false] (by kernel_rfl) (fun _ _ h => h) (by kernel_rfl) (y_load1 (dst := some 36) (ad := ⟨b48, o49 + (i32).toNat * 2, none⟩) (sz := 1) (by kernel_rfl) (v := .int .i64 x46.1) (le27 _ _ (le19 _ _ (le10 _ _ (hc51 0 _ rfl))))) (by kernel_rfl) (by kernel_rfl) ?_ rfl
          refine dx_yld (fuel := 4) (i := 7) [] [true, true, true, true, true, true, true, true, false, false, false, false] (by kernel_rfl) (fun _ _ h => h) (by kernel_rfl) (y_indexA (dst := some 39) (A := A2) (len := l1.length) (kk := .i64) (ii := i32) (sz := 2) (by kernel_rfl) hA50 (xs := l1) rfl h47) (by kernel_rfl) (by kernel_rfl) ?_ rfl
          refine dx_exec (fuel := 3) [] [8] [0, 3, 4, 5, 6, 36, 40] [] [0] [true, true, true, true, true, true, true, true, true, false, false, false] ⟨[(0, .v (.slice A2 l1.length c3)), (3, .v (.bool r7)), (4, .v (.slice A20 r16.length c21)), (5, .v (v55)), (6, .v (.int .i64 i32)), (36, .v (.int .i64 x46.1)), (40, .v (.pointer (some ⟨b48, o49 + (i32).toNat * 2 + 1, none⟩)))], [], [(0, ⟨v55, 53, 2, 2 + turned28.length, (List.take (2 * 2) [.int .i64 x46.1, .int .i64 x46.2, .int .i64 x46.1, .int .i64 x46.2]) ++ cs61⟩)], 0⟩ (by kernel_rfl) (fun _ _ h => h) (by kernel_rfl) (by kernel_rfl) ?_ rfl
          refine dx_yld (fuel := 2) (i := 9) [] [true, true, true, true, true, true, true, true, true, true, false, false] (by kernel_rfl) (fun _ _ h => h) (by kernel_rfl) (y_load1 (dst := some 41) (ad := ⟨b48, o49 + (i32).toNat * 2 + 1, none⟩) (sz := 1) (by kernel_rfl) (v := .int .i64 x46.2) (le27 _ _ (le19 _ _ (le10 _ _ (hc51 1 _ rfl))))) (by kernel_rfl) (by kernel_rfl) ?_ rfl
          refine dx_exec (fuel := 0) [] [10, 11] [0, 3, 4, 5, 6, 7] [] [0] [true, true, true, true, true, true, true, true, true, true, true, true] ⟨[(0, .v (.slice A2 l1.length c3)), (3, .v (.bool r7)), (4, .v (.slice A20 r16.length c21)), (5, .v (v55)), (6, .v (.int .i64 i32)), (7, .v (.bool (x46.1 == x46.2)))], [], [(0, ⟨v55, 53, 2, 2 + turned28.length, (List.take (2 * 2) [.int .i64 x46.1, .int .i64 x46.2, .int .i64 x46.1, .int .i64 x46.2]) ++ cs61⟩)], 0⟩ (by kernel_rfl) (fun _ _ h => h) (by kernel_rfl) (by kernel_rfl) ?_ rfl
          refine d_end (by kernel_rfl) ?_
          refine n_then ?_
          refine g_seq ?_
          refine g_seq ?_
          refine g_region ?_
          refine g_exec 1 [0, 3, 4, 5, 6, 7, 8] [] [0] (fun _ => ⟨[(0, .v (.slice A2 l1.length c3)), (3, .v (.bool r7)), (4, .v (.slice A20 r16.length c21)), (5, .v (v55)), (6, .v (.int .i64 i32)), (7, .v (.bool (x46.1 == x46.2))), (8, .v (.int .i64 0))], [], [(0, ⟨v55, 53, 2, 2 + turned28.length, (List.take (2 * 2) [.int .i64 x46.1, .int .i64 x46.2, .int .i64 x46.1, .int .i64 x46.2]) ++ cs61⟩)], 0⟩) (fun _ => by kernel_rfl) fun _ => ?_
          refine g_end (by kernel_rfl) ?_
          refine n_then ?_
          refine g_fin [0, 3, 4, 5, 6, 7, 8] [] [0] ⟨[(0, .v (.slice A2 l1.length c3)), (3, .v (.bool r7)), (4, .v (.slice A20 r16.length c21)), (5, .v (v55)), (6, .v (.int .i64 i32)), (7, .v (.bool (x46.1 == x46.2))), (8, .v (.int .i64 0))], [], [(0, ⟨v55, 53, 2, 2 + turned28.length, (List.take (2 * 2) [.int .i64 x46.1, .int .i64 x46.2, .int .i64 x46.1, .int .i64 x46.2]) ++ cs61⟩)], 0⟩ (by kernel_rfl) ?_
          obtain ⟨t70, h74, hl35⟩ := bind_t hl35
          refine g_blockJ (fun M71 s => ∃ (met73 : Bool), s = ⟨[(0, .v (.slice A2 l1.length c3)), (3, .v (.bool r7)), (4, .v (.slice A20 r16.length c21)), (5, .v (v55)), (6, .v (.int .i64 i32)), (7, .v (.bool met73))], [], [(0, ⟨v55, 53, 2, 2 + turned28.length, (List.take (2 * 2) [.int .i64 x46.1, .int .i64 x46.2, .int .i64 x46.1, .int .i64 x46.2]) ++ cs61⟩)], 0⟩ ∧ met73 = t70 ∧ (∀ a u, M26 a = some u → M71 a = some u)) ?_ ?_
          · refine g_while (ι := Nat) (fun q67 M63 s => ∃ (met65 : Bool) (k66 : Int), s = ⟨[(0, .v (.slice A2 l1.length c3)), (3, .v (.bool r7)), (4, .v (.slice A20 r16.length c21)), (5, .v (v55)), (6, .v (.int .i64 i32)), (7, .v (.bool met65)), (8, .v (.int .i64 k66))], [], [(0, ⟨v55, 53, 2, 2 + turned28.length, (List.take (2 * 2) [.int .i64 x46.1, .int .i64 x46.2, .int .i64 x46.1, .int .i64 x46.2]) ++ cs61⟩)], 0⟩ ∧ law10_AtomNorm_l2 r16 x46 q67 met65 k66 = some t70 ∧ (∀ a u, M26 a = some u → M63 a = some u)) (fun q67 => q67) k ⟨(x46.1 == x46.2), 0, rfl, h74, (fun _ _ h => h)⟩ ?_
            rintro q67 M63 _ ⟨met65, k66, rfl, hl69, le64⟩
            obtain _ | q67 := q67
            · cases hl69
            · rw [law10_AtomNorm_l2] at hl69
              refine g_seq ?_
              refine g_seq ?_
              refine g_region ?_
              refine g_exec 4 [0, 3, 4, 5, 6, 7, 8, 46] [] [0] (fun _ => ⟨[(0, .v (.slice A2 l1.length c3)), (3, .v (.bool r7)), (4, .v (.slice A20 r16.length c21)), (5, .v (v55)), (6, .v (.int .i64 i32)), (7, .v (.bool met65)), (8, .v (.int .i64 k66)), (46, .v (.bool (decide (k66 < (r16.length : Int)))))], [], [(0, ⟨v55, 53, 2, 2 + turned28.length, (List.take (2 * 2) [.int .i64 x46.1, .int .i64 x46.2, .int .i64 x46.1, .int .i64 x46.2]) ++ cs61⟩)], 0⟩) (fun _ => by kernel_rfl) fun _ => ?_
              refine g_end (by kernel_rfl) ?_
              refine n_then ?_
              refine g_cond (decide (k66 < (r16.length : Int))) (by kernel_rfl) (fun hc76 => ?_) (fun hc76 => ?_)
              · replace hl69 := if_t (of_decide_eq_true hc76) hl69
                refine g_skip ?_
                refine n_then ?_
                refine g_seq ?_
                refine g_block ?_
                refine d_begin (by kernel_rfl) [] [] 13 (by kernel_rfl) ?_
                refine dx_exec (fuel := 11) [] [0, 1] [0, 3, 4, 5, 6, 7, 8, 50] [] [0] [true, true, false, false, false, false, false, false, false, false, false, false, false] ⟨[(0, .v (.slice A2 l1.length c3)), (3, .v (.bool r7)), (4, .v (.slice A20 r16.length c21)), (5, .v (v55)), (6, .v (.int .i64 i32)), (7, .v (.bool met65)), (8, .v (.int .i64 k66)), (50, .v (.bool met65))], [], [(0, ⟨v55, 53, 2, 2 + turned28.length, (List.take (2 * 2) [.int .i64 x46.1, .int .i64 x46.2, .int .i64 x46.1, .int .i64 x46.2]) ++ cs61⟩)], 0⟩ (by kernel_rfl) (fun _ _ h => h) (by kernel_rfl) (by kernel_rfl) ?_ rfl
                refine g_bool 50 (met65) (by kernel_rfl) (fun hc77 => ?_) (fun hc77 => ?_)
                · replace hl69 := if_t hc77 hl69
                  refine dx_exec (fuel := 0) [] [2, 3, 4, 5, 6, 7, 8, 9, 10, 11, 12] [0, 3, 4, 5, 6, 7, 8] [] [0] [true, true, true, true, true, true, true, true, true, true, true, true, true] ⟨[(0, .v (.slice A2 l1.length c3)), (3, .v (.bool r7)), (4, .v (.slice A20 r16.length c21)), (5, .v (v55)), (6, .v (.int .i64 i32)), (7, .v (.bool true)), (8, .v (.int .i64 k66))], [], [(0, ⟨v55, 53, 2, 2 + turned28.length, (List.take (2 * 2) [.int .i64 x46.1, .int .i64 x46.2, .int .i64 x46.1, .int .i64 x46.2]) ++ cs61⟩)], 0⟩ (by kernel_rfl) (fun _ _ h => h) (by kernel_rfl) (by kernel_rfl) ?_ rfl
                  refine d_end (by kernel_rfl) ?_
                  refine n_block ?_
                  refine n_then ?_
                  refine g_region ?_
                  refine g_exec 3 [0, 3, 4, 5, 6, 7, 8] [] [0] (fun _ => ⟨[(0, .v (.slice A2 l1.length c3)), (3, .v (.bool r7)), (4, .v (.slice A20 r16.length c21)), (5, .v (v55)), (6, .v (.int .i64 i32)), (7, .v (.bool true)), (8, .v (.int .i64 (IntKind.i64.wrap (k66 + 1))))], [], [(0, ⟨v55, 53, 2, 2 + turned28.length, (List.take (2 * 2) [.int .i64 x46.1, .int .i64 x46.2, .int .i64 x46.1, .int .i64 x46.2]) ++ cs61⟩)], 0⟩) (fun _ => by kernel_rfl) fun _ => ?_
                  refine g_end (by kernel_rfl) ?_
                  refine n_then ?_
                  refine g_fin [0, 3, 4, 5, 6, 7, 8] [] [0] ⟨[(0, .v (.slice A2 l1.length c3)), (3, .v (.bool r7)), (4, .v (.slice A20 r16.length c21)), (5, .v (v55)), (6, .v (.int .i64 i32)), (7, .v (.bool true)), (8, .v (.int .i64 (IntKind.i64.wrap (k66 + 1))))], [], [(0, ⟨v55, 53, 2, 2 + turned28.length, (List.take (2 * 2) [.int .i64 x46.1, .int .i64 x46.2, .int .i64 x46.1, .int .i64 x46.2]) ++ cs61⟩)], 0⟩ (by kernel_rfl) ?_
                  exact g_again q67 ⟨true, (IntKind.i64.wrap (k66 + 1)), rfl, hl69, le64⟩ (Nat.lt_succ_self _)
                · replace hl69 := if_f (ne_t hc77) hl69
                  refine dx_exec (fuel := 7) [] [2, 3, 6, 7] [0, 3, 4, 5, 6, 7, 8, 50, 51, 52, 55, 56] [] [0] [true, true, true, true, false, false, true, true, false, false, false, false, false] ⟨[(0, .v (.slice A2 l1.length c3)), (3, .v (.bool r7)), (4, .v (.slice A20 r16.length c21)), (5, .v (v55)), (6, .v (.int .i64 i32)), (7, .v (.bool met65)), (8, .v (.int .i64 k66)), (50, .v (.bool false)), (51, .v (.slice A20 r16.length c21)), (52, .v (.int .i64 k66)), (55, .v (.slice A2 l1.length c3)), (56, .v (.int .i64 i32))], [], [(0, ⟨v55, 53, 2, 2 + turned28.length, (List.take (2 * 2) [.int .i64 x46.1, .int .i64 x46.2, .int .i64 x46.1, .int .i64 x46.2]) ++ cs61⟩)], 0⟩ (by kernel_rfl) (fun _ _ h => h) (by kernel_rfl) (by kernel_rfl) ?_ rfl
                  obtain ⟨x79, h80, hl69⟩ := bind_t hl69
                  obtain ⟨b81, o82, _, hA83, rfl, hc84⟩ := SlF.at hA22 h80
                  refine dx_yld (fuel := 6) (i := 4) [] [true, true, true, true, true, false, true, true, false, false, false, false, false] (by kernel_rfl) (fun _ _ h => h) (by kernel_rfl) (y_indexA (dst := some 53) (A := A20) (len := r16.length) (kk := .i64) (ii := k66) (sz := 2) (by kernel_rfl) hA83 (xs := r16) rfl h80) (by kernel_rfl) (by kernel_rfl) ?_ rfl
                  refine dx_yld (fuel := 5) (i := 5) [] [true, true, true, true, true, true, true, true, false, false, false, false, false] (by kernel_rfl) (fun _ _ h => h) (by kernel_rfl) (y_loads (dst := some 54) (b := b81) (o := o82 + (k66).toNat * 2) (sz := 2) (by kernel_rfl) (cs := [.int .i64 x79.1, .int .i64 x79.2]) rfl (fun j v hj => le64 _ _ (le27 _ _ (hc84 j v hj)))) (by kernel_rfl) (by kernel_rfl) ?_ rfl
                  refine dx_yld (fuel := 4) (i := 8) [] [true, true, true, true, true, true, true, true, true, false, false, false, false] (by kernel_rfl) (fun _ _ h => h) (by kernel_rfl) (y_indexA (dst := some 57) (A := A2) (len := l1.length) (kk := .i64) (ii := i32) (sz := 2) (by kernel_rfl) hA50 (xs := l1) rfl h47) (by kernel_rfl) (by kernel_rfl) ?_ rfl
                  refine dx_yld (fuel := 3) (i := 9) [] [true, true, true, true, true, true, true, true, true, true, false, false, false] (by kernel_rfl) (fun _ _ h => h) (by kernel_rfl) (y_loads (dst := some 58) (b := b48) (o := o49 + (i32).toNat * 2) (sz := 2) (by kernel_rfl) (cs := [.int .i64 x46.1, .int .i64 x46.2]) rfl (fun j v hj => le64 _ _ (le27 _ _ (le19 _ _ (le10 _ _ (hc51 j v hj)))))) (by kernel_rfl) (by kernel_rfl) ?_ rfl
                  refine dx_yld (fuel := 2) (i := 10) [] [true, true, true, true, true, true, true, true, true, true, true, false, false] (by kernel_rfl) (fun _ _ h => h) (by kernel_rfl) (y_eq (dst := some 59) (r := ((x79.1 == x46.1) && ((x79.2 == x46.2) && true))) (by kernel_rfl)) (by kernel_rfl) (by kernel_rfl) ?_ rfl
                  refine dx_exec (fuel := 0) [] [11, 12] [0, 3, 4, 5, 6, 7, 8] [] [0] [true, true, true, true, true, true, true, true, true, true, true, true, true] ⟨[(0, .v (.slice A2 l1.length c3)), (3, .v (.bool r7)), (4, .v (.slice A20 r16.length c21)), (5, .v (v55)), (6, .v (.int .i64 i32)), (7, .v (.bool ((x79.1 == x46.1) && ((x79.2 == x46.2) && true)))), (8, .v (.int .i64 k66))], [], [(0, ⟨v55, 53, 2, 2 + turned28.length, (List.take (2 * 2) [.int .i64 x46.1, .int .i64 x46.2, .int .i64 x46.1, .int .i64 x46.2]) ++ cs61⟩)], 0⟩ (by kernel_rfl) (fun _ _ h => h) (by kernel_rfl) (by kernel_rfl) ?_ rfl
                  refine d_end (by kernel_rfl) ?_
                  refine n_block ?_
                  refine n_then ?_
                  refine g_region ?_
                  refine g_exec 3 [0, 3, 4, 5, 6, 7, 8] [] [0] (fun _ => ⟨[(0, .v (.slice A2 l1.length c3)), (3, .v (.bool r7)), (4, .v (.slice A20 r16.length c21)), (5, .v (v55)), (6, .v (.int .i64 i32)), (7, .v (.bool ((x79.1 == x46.1) && ((x79.2 == x46.2) && true)))), (8, .v (.int .i64 (IntKind.i64.wrap (k66 + 1))))], [], [(0, ⟨v55, 53, 2, 2 + turned28.length, (List.take (2 * 2) [.int .i64 x46.1, .int .i64 x46.2, .int .i64 x46.1, .int .i64 x46.2]) ++ cs61⟩)], 0⟩) (fun _ => by kernel_rfl) fun _ => ?_
                  refine g_end (by kernel_rfl) ?_
                  refine n_then ?_
                  refine g_fin [0, 3, 4, 5, 6, 7, 8] [] [0] ⟨[(0, .v (.slice A2 l1.length c3)), (3, .v (.bool r7)), (4, .v (.slice A20 r16.length c21)), (5, .v (v55)), (6, .v (.int .i64 i32)), (7, .v (.bool ((x79.1 == x46.1) && ((x79.2 == x46.2) && true)))), (8, .v (.int .i64 (IntKind.i64.wrap (k66 + 1))))], [], [(0, ⟨v55, 53, 2, 2 + turned28.length, (List.take (2 * 2) [.int .i64 x46.1, .int .i64 x46.2, .int .i64 x46.1, .int .i64 x46.2]) ++ cs61⟩)], 0⟩ (by kernel_rfl) ?_
                  exact g_again q67 ⟨((x79.1 == x46.1) && ((x79.2 == x46.2) && true)), (IntKind.i64.wrap (k66 + 1)), rfl, hl69, le64⟩ (Nat.lt_succ_self _)
              · replace hl69 := if_f (of_decide_eq_false hc76) hl69
                refine g_exit ?_
                refine n_then_exit ?_
                refine n_then_exit ?_
                refine n_block_exit ?_
                refine g_fin [0, 3, 4, 5, 6, 7] [] [0] ⟨[(0, .v (.slice A2 l1.length c3)), (3, .v (.bool r7)), (4, .v (.slice A20 r16.length c21)), (5, .v (v55)), (6, .v (.int .i64 i32)), (7, .v (.bool met65))], [], [(0, ⟨v55, 53, 2, 2 + turned28.length, (List.take (2 * 2) [.int .i64 x46.1, .int .i64 x46.2, .int .i64 x46.1, .int .i64 x46.2]) ++ cs61⟩)], 0⟩ (by kernel_rfl) ?_
                exact n_join ⟨met65, rfl, some_inj hl69, le64⟩
          · rintro M71 _ ⟨met73, rfl, ht68, le72⟩
            subst ht68
            refine n_then ?_
            refine g_seq ?_
            refine g_region ?_
            refine g_exec 2 [0, 3, 4, 5, 6, 62] [] [0] (fun _ => ⟨[(0, .v (.slice A2 l1.length c3)), (3, .v (.bool r7)), (4, .v (.slice A20 r16.length c21)), (5, .v (v55)), (6, .v (.int .i64 i32)), (62, .v (.bool (!met73)))], [], [(0, ⟨v55, 53, 2, 2 + turned28.length, (List.take (2 * 2) [.int .i64 x46.1, .int .i64 x46.2, .int .i64 x46.1, .int .i64 x46.2]) ++ cs61⟩)], 0⟩) (fun _ => by kernel_rfl) fun _ => ?_
            refine g_end (by kernel_rfl) ?_
            refine n_then ?_
            refine g_cond (!met73) (by kernel_rfl) (fun hc87 => ?_) (fun hc87 => ?_)
            · replace hl35 := if_f (ne_t (bnot_t hc87)) hl35
              refine g_seq ?_
              refine g_region ?_
              refine g_exec 1 [2] [] [] (fun _ => ⟨[(2, .v (.bool false))], [], [], 0⟩) (fun _ => by kernel_rfl) fun _ => ?_
              refine g_end (by kernel_rfl) ?_
              refine n_then ?_
              refine g_ret ?_
              refine n_block_ret ?_
              refine n_then_ret ?_
              refine n_then_ret ?_
              refine n_block_ret ?_
              refine n_qj ?_
              refine n_then_ret ?_
              obtain rfl := some_inj hl35
              replace h := orOn_l h
              obtain rfl := some_inj h
              exact n_post (.bool false) (by kernel_rfl) rfl
            · replace hl35 := if_t (bnot_f hc87) hl35
              refine g_skip ?_
              refine n_block ?_
              refine n_then ?_
              refine g_region ?_
              refine g_exec 3 [0, 3, 4, 5, 6] [] [0] (fun _ => ⟨[(0, .v (.slice A2 l1.length c3)), (3, .v (.bool r7)), (4, .v (.slice A20 r16.length c21)), (5, .v (v55)), (6, .v (.int .i64 (IntKind.i64.wrap (i32 + 1))))], [], [(0, ⟨v55, 53, 2, 2 + turned28.length, (List.take (2 * 2) [.int .i64 x46.1, .int .i64 x46.2, .int .i64 x46.1, .int .i64 x46.2]) ++ cs61⟩)], 0⟩) (fun _ => by kernel_rfl) fun _ => ?_
              refine g_end (by kernel_rfl) ?_
              refine n_then ?_
              refine g_pubS 0 (by rfl) (Cells.mono (RepM.mono (rep := (fl chP)) le72) hcl56) hn57 ?_
              intro M90 A91 c92 le93 hv94 hA95
              subst hv94
              refine g_fin [0, 3, 4, 5, 6] [] [] ⟨[(0, .v (.slice A2 l1.length c3)), (3, .v (.bool r7)), (4, .v (.slice A20 r16.length c21)), (5, .v (.slice A91 ys54.length c92)), (6, .v (.int .i64 (IntKind.i64.wrap (i32 + 1))))], [], [], 0⟩ (by kernel_rfl) ?_
              exact g_again q33 ⟨ys54, A91, c92, (IntKind.i64.wrap (i32 + 1)), rfl, hA95, hl35, (fun _ _ h => le93 _ _ (le72 _ _ (le27 _ _ h)))⟩ (Nat.lt_succ_self _)
        · replace hl35 := if_f (of_decide_eq_false hc45) hl35
          refine g_exit ?_
          refine n_then_exit ?_
          refine n_then_exit ?_
          refine n_block_exit ?_
          refine g_fin [0, 3, 4, 5] [] [] ⟨[(0, .v (.slice A2 l1.length c3)), (3, .v (.bool r7)), (4, .v (.slice A20 r16.length c21)), (5, .v (.slice A29 turned28.length c30))], [], [], 0⟩ (by kernel_rfl) ?_
          exact n_join ⟨turned28, A29, c30, rfl, hA31, some_inj hl35, le27⟩
    · rintro M37 _ ⟨turned39, A40, c41, rfl, hA42, ht34, le38⟩
      subst ht34
      replace h := orOn_r h
      refine n_then ?_
      refine g_seq ?_
      refine g_seq ?_
      refine g_region ?_
      refine g_exec 1 [0, 3, 4, 5, 9] [] [] (fun _ => ⟨[(0, .v (.slice A2 l1.length c3)), (3, .v (.bool r7)), (4, .v (.slice A20 r16.length c21)), (5, .v (.slice A40 turned39.length c41)), (9, .v (.int .i64 0))], [], [], 0⟩) (fun _ => by kernel_rfl) fun _ => ?_
      refine g_end (by kernel_rfl) ?_
      refine n_then ?_
      refine g_fin [0, 3, 4, 5, 9] [] [] ⟨[(0, .v (.slice A2 l1.length c3)), (3, .v (.bool r7)), (4, .v (.slice A20 r16.length c21)), (5, .v (.slice A40 turned39.length c41)), (9, .v (.int .i64 0))], [], [], 0⟩ (by kernel_rfl) ?_
      obtain ⟨t103, h106, h⟩ := bind_t h
      refine g_blockJ (fun M104 s => s = ⟨[(0, .v (.slice A2 l1.length c3)), (3, .v (.bool r7)), (4, .v (.slice A20 r16.length c21)), (5, .v (.slice A40 turned39.length c41))], [], [], 0⟩ ∧ .inr () = t103 ∧ (∀ a u, M37 a = some u → M104 a = some u)) ?_ ?_
      · refine g_while (ι := Nat) (fun q100 M97 s => ∃ (k99 : Int), s = ⟨[(0, .v (.slice A2 l1.length c3)), (3, .v (.bool r7)), (4, .v (.slice A20 r16.length c21)), (5, .v (.slice A40 turned39.length c41)), (9, .v (.int .i64 k99))], [], [], 0⟩ ∧ law10_AtomNorm_l3 r16 q100 k99 = some t103 ∧ (∀ a u, M37 a = some u → M97 a = some u)) (fun q100 => q100) k ⟨0, rfl, h106, (fun _ _ h => h)⟩ ?_
        rintro q100 M97 _ ⟨k99, rfl, hl102, le98⟩
        obtain _ | q100 := q100
        · cases hl102
        · rw [law10_AtomNorm_l3] at hl102
          refine g_seq ?_
          refine g_seq ?_
          refine g_region ?_
          refine g_exec 4 [0, 3, 4, 5, 9, 66] [] [] (fun _ => ⟨[(0, .v (.slice A2 l1.length c3)), (3, .v (.bool r7)), (4, .v (.slice A20 r16.length c21)), (5, .v (.slice A40 turned39.length c41)), (9, .v (.int .i64 k99)), (66, .v (.bool (decide (k99 < (r16.length : Int)))))], [], [], 0⟩) (fun _ => by kernel_rfl) fun _ => ?_
          refine g_end (by kernel_rfl) ?_
          refine n_then ?_
          refine g_cond (decide (k99 < (r16.length : Int))) (by kernel_rfl) (fun hc108 => ?_) (fun hc108 => ?_)
          · replace hl102 := if_t (of_decide_eq_true hc108) hl102
            refine g_skip ?_
            refine n_then ?_
            refine g_seq ?_
            refine g_block ?_
            refine g_seq ?_
            refine d_begin (by kernel_rfl) [] [] 57 (by kernel_rfl) ?_
            refine dx_exec (fuel := 53) [] [0, 1, 5, 6] [0, 3, 4, 5, 9, 69, 70, 74, 75] [] [] [true, true, false, false, false, true, true, false, false, false, false, false, false, false, false, false, false, false, false, false, false, false, false, false, false, false, false, false, false, false, false, false, false, false, false, false, false, false, false, false, false, false, false, false, false, false, false, false, false, false, false, false, false, false, false, false, false] ⟨[(0, .v (.slice A2 l1.length c3)), (3, .v (.bool r7)), (4, .v (.slice A20 r16.length c21)), (5, .v (.slice A40 turned39.length c41)), (9, .v (.int .i64 k99)), (69, .v (.slice A20 r16.length c21)), (70, .v (.int .i64 k99)), (74, .v (.slice A20 r16.length c21)), (75, .v (.int .i64 k99))], [], [], 0⟩ (by kernel_rfl) (fun _ _ h => h) (by kernel_rfl) (by kernel_rfl) ?_ rfl
            obtain ⟨x109, h110, hl102⟩ := bind_t hl102
            obtain ⟨b111, o112, _, hA113, rfl, hc114⟩ := SlF.at hA22 h110
            refine dx_yld (fuel := 52) (i := 2) [] [true, true, true, false, false, true, true, false, false, false, false, false, false, false, false, false, false, false, false, false, false, false, false, false, false, false, false, false, false, false, false, false, false, false, false, false, false, false, false, false, false, false, false, false, false, false, false, false, false, false, false, false, false, false, false, false, false] (by kernel_rfl) (fun _ _ h => h) (by kernel_rfl) (y_indexA (dst := some 71) (A := A20) (len := r16.length) (kk := .i64) (ii := k99) (sz := 2) (by kernel_rfl) hA113 (xs := r16) rfl h110) (by kernel_rfl) (by kernel_rfl) ?_ rfl
            refine dx_exec (fuel := 51) [] [3] [0, 3, 4, 5, 9, 72, 74, 75] [] [] [true, true, true, true, false, true, true, false, false, false, false, false, false, false, false, false, false, false, false, false, false, false, false, false, false, false, false, false, false, false, false, false, false, false, false, false, false, false, false, false, false, false, false, false, false, false, false, false, false, false, false, false, false, false, false, false, false] ⟨[(0, .v (.slice A2 l1.length c3)), (3, .v (.bool r7)), (4, .v (.slice A20 r16.length c21)), (5, .v (.slice A40 turned39.length c41)), (9, .v (.int .i64 k99)), (72, .v (.pointer (some ⟨b111, o112 + (k99).toNat * 2, none⟩))), (74, .v (.slice A20 r16.length c21)), (75, .v (.int .i64 k99))], [], [], 0⟩ (by kernel_rfl) (fun _ _ h => h) (by kernel_rfl) (by kernel_rfl) ?_ rfl
            refine dx_yld (fuel := 50) (i := 4) [] [true, true, true, true, true, true, true, false, false, false, false, false, false, false, false, false, false, false, false, false, false, false, false, false, false, false, false, false, false, false, false, false, false, false, false, false, false, false, false, false, false, false, false, false, false, false, false, false, false, false, false, false, false, false, false, false, false] (by kernel_rfl) (fun _ _ h => h) (by kernel_rfl) (y_load1 (dst := some 73) (ad := ⟨b111, o112 + (k99).toNat * 2, none⟩) (sz := 1) (by kernel_rfl) (v := .int .i64 x109.1) (le98 _ _ (le38 _ _ (hc114 0 _ rfl)))) (by kernel_rfl) (by kernel_rfl) ?_ rfl
            refine dx_yld (fuel := 49) (i := 7) [] [true, true, true, true, true, true, true, true, false, false, false, false, false, false, false, false, false, false, false, false, false, false, false, false, false, false, false, false, false, false, false, false, false, false, false, false, false, false, false, false, false, false, false, false, false, false, false, false, false, false, false, false, false, false, false, false, false] (by kernel_rfl) (fun _ _ h => h) (by kernel_rfl) (y_indexA (dst := some 76) (A := A20) (len := r16.length) (kk := .i64) (ii := k99) (sz := 2) (by kernel_rfl) hA113 (xs := r16) rfl h110) (by kernel_rfl) (by kernel_rfl) ?_ rfl
            refine dx_exec (fuel := 48) [] [8] [0, 3, 4, 5, 9, 73, 77] [] [] [true, true, true, true, true, true, true, true, true, false, false, false, false, false, false, false, false, false, false, false, false, false, false, false, false, false, false, false, false, false, false, false, false, false, false, false, false, false, false, false, false, false, false, false, false, false, false, false, false, false, false, false, false, false, false, false, false] ⟨[(0, .v (.slice A2 l1.length c3)), (3, .v (.bool r7)), (4, .v (.slice A20 r16.length c21)), (5, .v (.slice A40 turned39.length c41)), (9, .v (.int .i64 k99)), (73, .v (.int .i64 x109.1)), (77, .v (.pointer (some ⟨b111, o112 + (k99).toNat * 2 + 1, none⟩)))], [], [], 0⟩ (by kernel_rfl) (fun _ _ h => h) (by kernel_rfl) (by kernel_rfl) ?_ rfl
            refine dx_yld (fuel := 47) (i := 9) [] [true, true, true, true, true, true, true, true, true, true, false, false, false, false, false, false, false, false, false, false, false, false, false, false, false, false, false, false, false, false, false, false, false, false, false, false, false, false, false, false, false, false, false, false, false, false, false, false, false, false, false, false, false, false, false, false, false] (by kernel_rfl) (fun _ _ h => h) (by kernel_rfl) (y_load1 (dst := some 78) (ad := ⟨b111, o112 + (k99).toNat * 2 + 1, none⟩) (sz := 1) (by kernel_rfl) (v := .int .i64 x109.2) (le98 _ _ (le38 _ _ (hc114 1 _ rfl)))) (by kernel_rfl) (by kernel_rfl) ?_ rfl
            refine dx_exec (fuel := 45) [] [10, 11] [0, 3, 4, 5, 9, 80] [] [] [true, true, true, true, true, true, true, true, true, true, true, true, false, false, false, false, false, false, false, false, false, false, false, false, false, false, false, false, false, false, false, false, false, false, false, false, false, false, false, false, false, false, false, false, false, false, false, false, false, false, false, false, false, false, false, false, false] ⟨[(0, .v (.slice A2 l1.length c3)), (3, .v (.bool r7)), (4, .v (.slice A20 r16.length c21)), (5, .v (.slice A40 turned39.length c41)), (9, .v (.int .i64 k99)), (80, .v (.bool (x109.1 == x109.2)))], [], [], 0⟩ (by kernel_rfl) (fun _ _ h => h) (by kernel_rfl) (by kernel_rfl) ?_ rfl
            refine g_bool 80 ((x109.1 == x109.2)) (by kernel_rfl) (fun hc115 => ?_) (fun hc115 => ?_)
            · replace hl102 := if_t (eq_of_beq hc115) hl102
              refine dx_exec (fuel := 0) [] [12, 13, 14, 15, 16, 17, 18, 19, 20, 21, 22, 23, 24, 25, 26, 27, 28, 29, 30, 31, 32, 33, 34, 35, 36, 37, 38, 39, 40, 41, 42, 43, 44, 45, 46, 47, 48, 49, 50, 51, 52, 53, 54, 55, 56] [0, 3, 4, 5, 9, 125] [] [] [true, true, true, true, true, true, true, true, true, true, true, true, true, true, true, true, true, true, true, true, true, true, true, true, true, true, true, true, true, true, true, true, true, true, true, true, true, true, true, true, true, true, true, true, true, true, true, true, true, true, true, true, true, true, true, true, true] ⟨[(0, .v (.slice A2 l1.length c3)), (3, .v (.bool r7)), (4, .v (.slice A20 r16.length c21)), (5, .v (.slice A40 turned39.length c41)), (9, .v (.int .i64 k99)), (125, .v (.bool true))], [], [], 0⟩ (by kernel_rfl) (fun _ _ h => h) (by kernel_rfl) (by kernel_rfl) ?_ rfl
              refine d_end (by kernel_rfl) ?_
              refine n_then ?_
              refine g_cond true (by kernel_rfl) (fun hc => ?_) (fun hc => ?_)
              · refine g_seq ?_
                refine g_region ?_
                refine g_exec 1 [2] [] [] (fun _ => ⟨[(2, .v (.bool false))], [], [], 0⟩) (fun _ => by kernel_rfl) fun _ => ?_
                refine g_end (by kernel_rfl) ?_
                refine n_then ?_
                refine g_ret ?_
                refine n_block_ret ?_
                refine n_then_ret ?_
                refine n_then_ret ?_
                refine n_block_ret ?_
                refine n_qj ?_
                refine n_then_ret ?_
                obtain rfl := some_inj hl102
                replace h := orOn_l h
                obtain rfl := some_inj h
                exact n_post (.bool false) (by kernel_rfl) rfl
              · cases hc
            · replace hl102 := if_f (ne_of_beq_false hc115) hl102
              refine dx_exec (fuel := 42) [] [12, 13, 14] [0, 3, 4, 5, 9, 80, 83] [] [] [true, true, true, true, true, true, true, true, true, true, true, true, true, true, true, false, false, false, false, false, false, false, false, false, false, false, false, false, false, false, false, false, false, false, false, false, false, false, false, false, false, false, false, false, false, false, false, false, false, false, false, false, false, false, false, false, false] ⟨[(0, .v (.slice A2 l1.length c3)), (3, .v (.bool r7)), (4, .v (.slice A20 r16.length c21)), (5, .v (.slice A40 turned39.length c41)), (9, .v (.int .i64 k99)), (80, .v (.bool false)), (83, .v (.bool (decide (k99 > 0))))], [], [], 0⟩ (by kernel_rfl) (fun _ _ h => h) (by kernel_rfl) (by kernel_rfl) ?_ rfl
              refine g_bool 83 (decide (k99 > 0)) (by kernel_rfl) (fun hc117 => ?_) (fun hc117 => ?_)
              · replace hl102 := if_t (of_decide_eq_true hc117) hl102
                refine dx_exec (fuel := 37) [] [15, 16, 17, 21, 22] [0, 3, 4, 5, 9, 80, 83, 84, 86, 90, 91] [] [] [true, true, true, true, true, true, true, true, true, true, true, true, true, true, true, true, true, true, false, false, false, true, true, false, false, false, false, false, false, false, false, false, false, false, false, false, false, false, false, false, false, false, false, false, false, false, false, false, false, false, false, false, false, false, false, false, false] ⟨[(0, .v (.slice A2 l1.length c3)), (3, .v (.bool r7)), (4, .v (.slice A20 r16.length c21)), (5, .v (.slice A40 turned39.length c41)), (9, .v (.int .i64 k99)), (80, .v (.bool false)), (83, .v (.bool true)), (84, .v (.slice A20 r16.length c21)), (86, .v (.int .i64 (IntKind.i64.wrap (k99 - 1)))), (90, .v (.slice A20 r16.length c21)), (91, .v (.int .i64 k99))], [], [], 0⟩ (by kernel_rfl) (fun _ _ h => h) (by kernel_rfl) (by kernel_rfl) ?_ rfl
                obtain ⟨x118, h119, hl102⟩ := bind_t hl102
                obtain ⟨b120, o121, _, hA122, rfl, hc123⟩ := SlF.at hA22 h119
                refine dx_yld (fuel := 36) (i := 18) [] [true, true, true, true, true, true, true, true, true, true, true, true, true, true, true, true, true, true, true, false, false, true, true, false, false, false, false, false, false, false, false, false, false, false, false, false, false, false, false, false, false, false, false, false, false, false, false, false, false, false, false, false, false, false, false, false, false] (by kernel_rfl) (fun _ _ h => h) (by kernel_rfl) (y_indexA (dst := some 87) (A := A20) (len := r16.length) (kk := .i64) (ii := (IntKind.i64.wrap (k99 - 1))) (sz := 2) (by kernel_rfl) hA122 (xs := r16) rfl h119) (by kernel_rfl) (by kernel_rfl) ?_ rfl
                refine dx_exec (fuel := 35) [] [19] [0, 3, 4, 5, 9, 80, 83, 88, 90, 91] [] [] [true, true, true, true, true, true, true, true, true, true, true, true, true, true, true, true, true, true, true, true, false, true, true, false, false, false, false, false, false, false, false, false, false, false, false, false, false, false, false, false, false, false, false, false, false, false, false, false, false, false, false, false, false, false, false, false, false] ⟨[(0, .v (.slice A2 l1.length c3)), (3, .v (.bool r7)), (4, .v (.slice A20 r16.length c21)), (5, .v (.slice A40 turned39.length c41)), (9, .v (.int .i64 k99)), (80, .v (.bool false)), (83, .v (.bool true)), (88, .v (.pointer (some ⟨b120, o121 + (IntKind.i64.wrap (k99 - 1)).toNat * 2, none⟩))), (90, .v (.slice A20 r16.length c21)), (91, .v (.int .i64 k99))], [], [], 0⟩ (by kernel_rfl) (fun _ _ h => h) (by kernel_rfl) (by kernel_rfl) ?_ rfl
                refine dx_yld (fuel := 34) (i := 20) [] [true, true, true, true, true, true, true, true, true, true, true, true, true, true, true, true, true, true, true, true, true, true, true, false, false, false, false, false, false, false, false, false, false, false, false, false, false, false, false, false, false, false, false, false, false, false, false, false, false, false, false, false, false, false, false, false, false] (by kernel_rfl) (fun _ _ h => h) (by kernel_rfl) (y_load1 (dst := some 89) (ad := ⟨b120, o121 + (IntKind.i64.wrap (k99 - 1)).toNat * 2, none⟩) (sz := 1) (by kernel_rfl) (v := .int .i64 x118.1) (le98 _ _ (le38 _ _ (hc123 0 _ rfl)))) (by kernel_rfl) (by kernel_rfl) ?_ rfl
                refine dx_yld (fuel := 33) (i := 23) [] [true, true, true, true, true, true, true, true, true, true, true, true, true, true, true, true, true, true, true, true, true, true, true, true, false, false, false, false, false, false, false, false, false, false, false, false, false, false, false, false, false, false, false, false, false, false, false, false, false, false, false, false, false, false, false, false, false] (by kernel_rfl) (fun _ _ h => h) (by kernel_rfl) (y_indexA (dst := some 92) (A := A20) (len := r16.length) (kk := .i64) (ii := k99) (sz := 2) (by kernel_rfl) hA113 (xs := r16) rfl h110) (by kernel_rfl) (by kernel_rfl) ?_ rfl
                refine dx_exec (fuel := 32) [] [24] [0, 3, 4, 5, 9, 80, 83, 89, 93] [] [] [true, true, true, true, true, true, true, true, true, true, true, true, true, true, true, true, true, true, true, true, true, true, true, true, true, false, false, false, false, false, false, false, false, false, false, false, false, false, false, false, false, false, false, false, false, false, false, false, false, false, false, false, false, false, false, false, false] ⟨[(0, .v (.slice A2 l1.length c3)), (3, .v (.bool r7)), (4, .v (.slice A20 r16.length c21)), (5, .v (.slice A40 turned39.length c41)), (9, .v (.int .i64 k99)), (80, .v (.bool false)), (83, .v (.bool true)), (89, .v (.int .i64 x118.1)), (93, .v (.pointer (some ⟨b111, o112 + (k99).toNat * 2, none⟩)))], [], [], 0⟩ (by kernel_rfl) (fun _ _ h => h) (by kernel_rfl) (by kernel_rfl) ?_ rfl
                refine dx_yld (fuel := 31) (i := 25) [] [true, true, true, true, true, true, true, true, true, true, true, true, true, true, true, true, true, true, true, true, true, true, true, true, true, true, false, false, false, false, false, false, false, false, false, false, false, false, false, false, false, false, false, false, false, false, false, false, false, false, false, false, false, false, false, false, false] (by kernel_rfl) (fun _ _ h => h) (by kernel_rfl) (y_load1 (dst := some 94) (ad := ⟨b111, o112 + (k99).toNat * 2, none⟩) (sz := 1) (by kernel_rfl) (v := .int .i64 x109.1) (le98 _ _ (le38 _ _ (hc114 0 _ rfl)))) (by kernel_rfl) (by kernel_rfl) ?_ rfl
                refine dx_exec (fuel := 29) [] [26, 27] [0, 3, 4, 5, 9, 80, 83, 96] [] [] [true, true, true, true, true, true, true, true, true, true, true, true, true, true, true, true, true, true, true, true, true, true, true, true, true, true, true, true, false, false, false, false, false, false, false, false, false, false, false, false, false, false, false, false, false, false, false, false, false, false, false, false, false, false, false, false, false] ⟨[(0, .v (.slice A2 l1.length c3)), (3, .v (.bool r7)), (4, .v (.slice A20 r16.length c21)), (5, .v (.slice A40 turned39.length c41)), (9, .v (.int .i64 k99)), (80, .v (.bool false)), (83, .v (.bool true)), (96, .v (.bool (decide (x118.1 > x109.1))))], [], [], 0⟩ (by kernel_rfl) (fun _ _ h => h) (by kernel_rfl) (by kernel_rfl) ?_ rfl
                refine g_bool 96 (decide (x118.1 > x109.1)) (by kernel_rfl) (fun hc124 => ?_) (fun hc124 => ?_)
                · replace hl102 := if_t (of_decide_eq_true hc124) hl102
                  refine dx_exec (fuel := 0) [] [28, 29, 30, 31, 32, 33, 34, 35, 36, 37, 38, 39, 40, 41, 42, 43, 44, 45, 46, 47, 48, 49, 50, 51, 52, 53, 54, 55, 56] [0, 3, 4, 5, 9, 125] [] [] [true, true, true, true, true, true, true, true, true, true, true, true, true, true, true, true, true, true, true, true, true, true, true, true, true, true, true, true, true, true, true, true, true, true, true, true, true, true, true, true, true, true, true, true, true, true, true, true, true, true, true, true, true, true, true, true, true] ⟨[(0, .v (.slice A2 l1.length c3)), (3, .v (.bool r7)), (4, .v (.slice A20 r16.length c21)), (5, .v (.slice A40 turned39.length c41)), (9, .v (.int .i64 k99)), (125, .v (.bool true))], [], [], 0⟩ (by kernel_rfl) (fun _ _ h => h) (by kernel_rfl) (by kernel_rfl) ?_ rfl
                  refine d_end (by kernel_rfl) ?_
                  refine n_then ?_
                  refine g_cond true (by kernel_rfl) (fun hc => ?_) (fun hc => ?_)
                  · refine g_seq ?_
                    refine g_region ?_
                    refine g_exec 1 [2] [] [] (fun _ => ⟨[(2, .v (.bool false))], [], [], 0⟩) (fun _ => by kernel_rfl) fun _ => ?_
                    refine g_end (by kernel_rfl) ?_
                    refine n_then ?_
                    refine g_ret ?_
                    refine n_block_ret ?_
                    refine n_then_ret ?_
                    refine n_then_ret ?_
                    refine n_block_ret ?_
                    refine n_qj ?_
                    refine n_then_ret ?_
                    obtain rfl := some_inj hl102
                    replace h := orOn_l h
                    obtain rfl := some_inj h
                    exact n_post (.bool false) (by kernel_rfl) rfl
                  · cases hc
                · replace hl102 := if_f (of_decide_eq_false hc124) hl102
                  refine dx_exec (fuel := 24) [] [28, 29, 30, 34, 35] [0, 3, 4, 5, 9, 80, 83, 96, 97, 99, 103, 104] [] [] [true, true, true, true, true, true, true, true, true, true, true, true, true, true, true, true, true, true, true, true, true, true, true, true, true, true, true, true, true, true, true, false, false, false, true, true, false, false, false, false, false, false, false, false, false, false, false, false, false, false, false, false, false, false, false, false, false] ⟨[(0, .v (.slice A2 l1.length c3)), (3, .v (.bool r7)), (4, .v (.slice A20 r16.length c21)), (5, .v (.slice A40 turned39.length c41)), (9, .v (.int .i64 k99)), (80, .v (.bool false)), (83, .v (.bool true)), (96, .v (.bool false)), (97, .v (.slice A20 r16.length c21)), (99, .v (.int .i64 (IntKind.i64.wrap (k99 - 1)))), (103, .v (.slice A20 r16.length c21)), (104, .v (.int .i64 k99))], [], [], 0⟩ (by kernel_rfl) (fun _ _ h => h) (by kernel_rfl) (by kernel_rfl) ?_ rfl
                  refine dx_yld (fuel := 23) (i := 31) [] [true, true, true, true, true, true, true, true, true, true, true, true, true, true, true, true, true, true, true, true, true, true, true, true, true, true, true, true, true, true, true, true, false, false, true, true, false, false, false, false, false, false, false, false, false, false, false, false, false, false, false, false, false, false, false, false, false] (by kernel_rfl) (fun _ _ h => h) (by kernel_rfl) (y_indexA (dst := some 100) (A := A20) (len := r16.length) (kk := .i64) (ii := (IntKind.i64.wrap (k99 - 1))) (sz := 2) (by kernel_rfl) hA122 (xs := r16) rfl h119) (by kernel_rfl) (by kernel_rfl) ?_ rfl
                  refine dx_exec (fuel := 22) [] [32] [0, 3, 4, 5, 9, 80, 83, 96, 101, 103, 104] [] [] [true, true, true, true, true, true, true, true, true, true, true, true, true, true, true, true, true, true, true, true, true, true, true, true, true, true, true, true, true, true, true, true, true, false, true, true, false, false, false, false, false, false, false, false, false, false, false, false, false, false, false, false, false, false, false, false, false] ⟨[(0, .v (.slice A2 l1.length c3)), (3, .v (.bool r7)), (4, .v (.slice A20 r16.length c21)), (5, .v (.slice A40 turned39.length c41)), (9, .v (.int .i64 k99)), (80, .v (.bool false)), (83, .v (.bool true)), (96, .v (.bool false)), (101, .v (.pointer (some ⟨b120, o121 + (IntKind.i64.wrap (k99 - 1)).toNat * 2, none⟩))), (103, .v (.slice A20 r16.length c21)), (104, .v (.int .i64 k99))], [], [], 0⟩ (by kernel_rfl) (fun _ _ h => h) (by kernel_rfl) (by kernel_rfl) ?_ rfl
                  refine dx_yld (fuel := 21) (i := 33) [] [true, true, true, true, true, true, true, true, true, true, true, true, true, true, true, true, true, true, true, true, true, true, true, true, true, true, true, true, true, true, true, true, true, true, true, true, false, false, false, false, false, false, false, false, false, false, false, false, false, false, false, false, false, false, false, false, false] (by kernel_rfl) (fun _ _ h => h) (by kernel_rfl) (y_load1 (dst := some 102) (ad := ⟨b120, o121 + (IntKind.i64.wrap (k99 - 1)).toNat * 2, none⟩) (sz := 1) (by kernel_rfl) (v := .int .i64 x118.1) (le98 _ _ (le38 _ _ (hc123 0 _ rfl)))) (by kernel_rfl) (by kernel_rfl) ?_ rfl
                  refine dx_yld (fuel := 20) (i := 36) [] [true, true, true, true, true, true, true, true, true, true, true, true, true, true, true, true, true, true, true, true, true, true, true, true, true, true, true, true, true, true, true, true, true, true, true, true, true, false, false, false, false, false, false, false, false, false, false, false, false, false, false, false, false, false, false, false, false] (by kernel_rfl) (fun _ _ h => h) (by kernel_rfl) (y_indexA (dst := some 105) (A := A20) (len := r16.length) (kk := .i64) (ii := k99) (sz := 2) (by kernel_rfl) hA113 (xs := r16) rfl h110) (by kernel_rfl) (by kernel_rfl) ?_ rfl
                  refine dx_exec (fuel := 19) [] [37] [0, 3, 4, 5, 9, 80, 83, 96, 102, 106] [] [] [true, true, true, true, true, true, true, true, true, true, true, true, true, true, true, true, true, true, true, true, true, true, true, true, true, true, true, true, true, true, true, true, true, true, true, true, true, true, false, false, false, false, false, false, false, false, false, false, false, false, false, false, false, false, false, false, false] ⟨[(0, .v (.slice A2 l1.length c3)), (3, .v (.bool r7)), (4, .v (.slice A20 r16.length c21)), (5, .v (.slice A40 turned39.length c41)), (9, .v (.int .i64 k99)), (80, .v (.bool false)), (83, .v (.bool true)), (96, .v (.bool false)), (102, .v (.int .i64 x118.1)), (106, .v (.pointer (some ⟨b111, o112 + (k99).toNat * 2, none⟩)))], [], [], 0⟩ (by kernel_rfl) (fun _ _ h => h) (by kernel_rfl) (by kernel_rfl) ?_ rfl
                  refine dx_yld (fuel := 18) (i := 38) [] [true, true, true, true, true, true, true, true, true, true, true, true, true, true, true, true, true, true, true, true, true, true, true, true, true, true, true, true, true, true, true, true, true, true, true, true, true, true, true, false, false, false, false, false, false, false, false, false, false, false, false, false, false, false, false, false, false] (by kernel_rfl) (fun _ _ h => h) (by kernel_rfl) (y_load1 (dst := some 107) (ad := ⟨b111, o112 + (k99).toNat * 2, none⟩) (sz := 1) (by kernel_rfl) (v := .int .i64 x109.1) (le98 _ _ (le38 _ _ (hc114 0 _ rfl)))) (by kernel_rfl) (by kernel_rfl) ?_ rfl
                  refine dx_exec (fuel := 16) [] [39, 40] [0, 3, 4, 5, 9, 80, 83, 96, 109] [] [] [true, true, true, true, true, true, true, true, true, true, true, true, true, true, true, true, true, true, true, true, true, true, true, true, true, true, true, true, true, true, true, true, true, true, true, true, true, true, true, true, true, false, false, false, false, false, false, false, false, false, false, false, false, false, false, false, false] ⟨[(0, .v (.slice A2 l1.length c3)), (3, .v (.bool r7)), (4, .v (.slice A20 r16.length c21)), (5, .v (.slice A40 turned39.length c41)), (9, .v (.int .i64 k99)), (80, .v (.bool false)), (83, .v (.bool true)), (96, .v (.bool false)), (109, .v (.bool (x118.1 == x109.1)))], [], [], 0⟩ (by kernel_rfl) (fun _ _ h => h) (by kernel_rfl) (by kernel_rfl) ?_ rfl
                  refine g_bool 109 ((x118.1 == x109.1)) (by kernel_rfl) (fun hc126 => ?_) (fun hc126 => ?_)
                  · replace hl102 := if_t (eq_of_beq hc126) hl102
                    refine dx_exec (fuel := 11) [] [41, 42, 43, 47, 48] [0, 3, 4, 5, 9, 80, 83, 96, 109, 110, 112, 116, 117] [] [] [true, true, true, true, true, true, true, true, true, true, true, true, true, true, true, true, true, true, true, true, true, true, true, true, true, true, true, true, true, true, true, true, true, true, true, true, true, true, true, true, true, true, true, true, false, false, false, true, true, false, false, false, false, false, false, false, false] ⟨[(0, .v (.slice A2 l1.length c3)), (3, .v (.bool r7)), (4, .v (.slice A20 r16.length c21)), (5, .v (.slice A40 turned39.length c41)), (9, .v (.int .i64 k99)), (80, .v (.bool false)), (83, .v (.bool true)), (96, .v (.bool false)), (109, .v (.bool true)), (110, .v (.slice A20 r16.length c21)), (112, .v (.int .i64 (IntKind.i64.wrap (k99 - 1)))), (116, .v (.slice A20 r16.length c21)), (117, .v (.int .i64 k99))], [], [], 0⟩ (by kernel_rfl) (fun _ _ h => h) (by kernel_rfl) (by kernel_rfl) ?_ rfl
                    refine dx_yld (fuel := 10) (i := 44) [] [true, true, true, true, true, true, true, true, true, true, true, true, true, true, true, true, true, true, true, true, true, true, true, true, true, true, true, true, true, true, true, true, true, true, true, true, true, true, true, true, true, true, true, true, true, false, false, true, true, false, false, false, false, false, false, false, false] (by kernel_rfl) (fun _ _ h => h) (by kernel_rfl) (y_indexA (dst := some 113) (A := A20) (len := r16.length) (kk := .i64) (ii := (IntKind.i64.wrap (k99 - 1))) (sz := 2) (by kernel_rfl) hA122 (xs := r16) rfl h119) (by kernel_rfl) (by kernel_rfl) ?_ rfl
                    refine dx_exec (fuel := 9) [] [45] [0, 3, 4, 5, 9, 80, 83, 96, 109, 114, 116, 117] [] [] [true, true, true, true, true, true, true, true, true, true, true, true, true, true, true, true, true, true, true, true, true, true, true, true, true, true, true, true, true, true, true, true, true, true, true, true, true, true, true, true, true, true, true, true, true, true, false, true, true, false, false, false, false, false, false, false, false] ⟨[(0, .v (.slice A2 l1.length c3)), (3, .v (.bool r7)), (4, .v (.slice A20 r16.length c21)), (5, .v (.slice A40 turned39.length c41)), (9, .v (.int .i64 k99)), (80, .v (.bool false)), (83, .v (.bool true)), (96, .v (.bool false)), (109, .v (.bool true)), (114, .v (.pointer (some ⟨b120, o121 + (IntKind.i64.wrap (k99 - 1)).toNat * 2 + 1, none⟩))), (116, .v (.slice A20 r16.length c21)), (117, .v (.int .i64 k99))], [], [], 0⟩ (by kernel_rfl) (fun _ _ h => h) (by kernel_rfl) (by kernel_rfl) ?_ rfl
                    refine dx_yld (fuel := 8) (i := 46) [] [true, true, true, true, true, true, true, true, true, true, true, true, true, true, true, true, true, true, true, true, true, true, true, true, true, true, true, true, true, true, true, true, true, true, true, true, true, true, true, true, true, true, true, true, true, true, true, true, true, false, false, false, false, false, false, false, false] (by kernel_rfl) (fun _ _ h => h) (by kernel_rfl) (y_load1 (dst := some 115) (ad := ⟨b120, o121 + (IntKind.i64.wrap (k99 - 1)).toNat * 2 + 1, none⟩) (sz := 1) (by kernel_rfl) (v := .int .i64 x118.2) (le98 _ _ (le38 _ _ (hc123 1 _ rfl)))) (by kernel_rfl) (by kernel_rfl) ?_ rfl
                    refine dx_yld (fuel := 7) (i := 49) [] [true, true, true, true, true, true, true, true, true, true, true, true, true, true, true, true, true, true, true, true, true, true, true, true, true, true, true, true, true, true, true, true, true, true, true, true, true, true, true, true, true, true, true, true, true, true, true, true, true, true, false, false, false, false, false, false, false] (by kernel_rfl) (fun _ _ h => h) (by kernel_rfl) (y_indexA (dst := some 118) (A := A20) (len := r16.length) (kk := .i64) (ii := k99) (sz := 2) (by kernel_rfl) hA113 (xs := r16) rfl h110) (by kernel_rfl) (by kernel_rfl) ?_ rfl
                    refine dx_exec (fuel := 6) [] [50] [0, 3, 4, 5, 9, 80, 83, 96, 109, 115, 119] [] [] [true, true, true, true, true, true, true, true, true, true, true, true, true, true, true, true, true, true, true, true, true, true, true, true, true, true, true, true, true, true, true, true, true, true, true, true, true, true, true, true, true, true, true, true, true, true, true, true, true, true, true, false, false, false, false, false, false] ⟨[(0, .v (.slice A2 l1.length c3)), (3, .v (.bool r7)), (4, .v (.slice A20 r16.length c21)), (5, .v (.slice A40 turned39.length c41)), (9, .v (.int .i64 k99)), (80, .v (.bool false)), (83, .v (.bool true)), (96, .v (.bool false)), (109, .v (.bool true)), (115, .v (.int .i64 x118.2)), (119, .v (.pointer (some ⟨b111, o112 + (k99).toNat * 2 + 1, none⟩)))], [], [], 0⟩ (by kernel_rfl) (fun _ _ h => h) (by kernel_rfl) (by kernel_rfl) ?_ rfl
                    refine dx_yld (fuel := 5) (i := 51) [] [true, true, true, true, true, true, true, true, true, true, true, true, true, true, true, true, true, true, true, true, true, true, true, true, true, true, true, true, true, true, true, true, true, true, true, true, true, true, true, true, true, true, true, true, true, true, true, true, true, true, true, true, false, false, false, false, false] (by kernel_rfl) (fun _ _ h => h) (by kernel_rfl) (y_load1 (dst := some 120) (ad := ⟨b111, o112 + (k99).toNat * 2 + 1, none⟩) (sz := 1) (by kernel_rfl) (v := .int .i64 x109.2) (le98 _ _ (le38 _ _ (hc114 1 _ rfl)))) (by kernel_rfl) (by kernel_rfl) ?_ rfl
                    refine dx_exec (fuel := 0) [] [52, 53, 54, 55, 56] [0, 3, 4, 5, 9, 125] [] [] [true, true, true, true, true, true, true, true, true, true, true, true, true, true, true, true, true, true, true, true, true, true, true, true, true, true, true, true, true, true, true, true, true, true, true, true, true, true, true, true, true, true, true, true, true, true, true, true, true, true, true, true, true, true, true, true, true] ⟨[(0, .v (.slice A2 l1.length c3)), (3, .v (.bool r7)), (4, .v (.slice A20 r16.length c21)), (5, .v (.slice A40 turned39.length c41)), (9, .v (.int .i64 k99)), (125, .v (.bool (decide (x118.2 ≥ x109.2))))], [], [], 0⟩ (by kernel_rfl) (fun _ _ h => h) (by kernel_rfl) (by kernel_rfl) ?_ rfl
                    refine d_end (by kernel_rfl) ?_
                    refine n_then ?_
                    refine g_cond (decide (x118.2 ≥ x109.2)) (by kernel_rfl) (fun hc127 => ?_) (fun hc127 => ?_)
                    · replace hl102 := if_t (of_decide_eq_true hc127) hl102
                      refine g_seq ?_
                      refine g_region ?_
                      refine g_exec 1 [2] [] [] (fun _ => ⟨[(2, .v (.bool false))], [], [], 0⟩) (fun _ => by kernel_rfl) fun _ => ?_
                      refine g_end (by kernel_rfl) ?_
                      refine n_then ?_
                      refine g_ret ?_
                      refine n_block_ret ?_
                      refine n_then_ret ?_
                      refine n_then_ret ?_
                      refine n_block_ret ?_
                      refine n_qj ?_
                      refine n_then_ret ?_
                      obtain rfl := some_inj hl102
                      replace h := orOn_l h
                      obtain rfl := some_inj h
                      exact n_post (.bool false) (by kernel_rfl) rfl
                    · replace hl102 := if_f (of_decide_eq_false hc127) hl102
                      refine g_skip ?_
                      refine n_block ?_
                      refine n_then ?_
                      refine g_region ?_
                      refine g_exec 3 [0, 3, 4, 5, 9] [] [] (fun _ => ⟨[(0, .v (.slice A2 l1.length c3)), (3, .v (.bool r7)), (4, .v (.slice A20 r16.length c21)), (5, .v (.slice A40 turned39.length c41)), (9, .v (.int .i64 (IntKind.i64.wrap (k99 + 1))))], [], [], 0⟩) (fun _ => by kernel_rfl) fun _ => ?_
                      refine g_end (by kernel_rfl) ?_
                      refine n_then ?_
                      refine g_fin [0, 3, 4, 5, 9] [] [] ⟨[(0, .v (.slice A2 l1.length c3)), (3, .v (.bool r7)), (4, .v (.slice A20 r16.length c21)), (5, .v (.slice A40 turned39.length c41)), (9, .v (.int .i64 (IntKind.i64.wrap (k99 + 1))))], [], [], 0⟩ (by kernel_rfl) ?_
                      exact g_again q100 ⟨(IntKind.i64.wrap (k99 + 1)), rfl, hl102, le98⟩ (Nat.lt_succ_self _)
                  · replace hl102 := if_f (ne_of_beq_false hc126) hl102
                    refine dx_exec (fuel := 0) [] [41, 42, 43, 44, 45, 46, 47, 48, 49, 50, 51, 52, 53, 54, 55, 56] [0, 3, 4, 5, 9, 125] [] [] [true, true, true, true, true, true, true, true, true, true, true, true, true, true, true, true, true, true, true, true, true, true, true, true, true, true, true, true, true, true, true, true, true, true, true, true, true, true, true, true, true, true, true, true, true, true, true, true, true, true, true, true, true, true, true, true, true] ⟨[(0, .v (.slice A2 l1.length c3)), (3, .v (.bool r7)), (4, .v (.slice A20 r16.length c21)), (5, .v (.slice A40 turned39.length c41)), (9, .v (.int .i64 k99)), (125, .v (.bool false))], [], [], 0⟩ (by kernel_rfl) (fun _ _ h => h) (by kernel_rfl) (by kernel_rfl) ?_ rfl
                    refine d_end (by kernel_rfl) ?_
                    refine n_then ?_
                    refine g_cond false (by kernel_rfl) (fun hc => ?_) (fun hc => ?_)
                    · cases hc
                    · refine g_skip ?_
                      refine n_block ?_
                      refine n_then ?_
                      refine g_region ?_
                      refine g_exec 3 [0, 3, 4, 5, 9] [] [] (fun _ => ⟨[(0, .v (.slice A2 l1.length c3)), (3, .v (.bool r7)), (4, .v (.slice A20 r16.length c21)), (5, .v (.slice A40 turned39.length c41)), (9, .v (.int .i64 (IntKind.i64.wrap (k99 + 1))))], [], [], 0⟩) (fun _ => by kernel_rfl) fun _ => ?_
                      refine g_end (by kernel_rfl) ?_
                      refine n_then ?_
                      refine g_fin [0, 3, 4, 5, 9] [] [] ⟨[(0, .v (.slice A2 l1.length c3)), (3, .v (.bool r7)), (4, .v (.slice A20 r16.length c21)), (5, .v (.slice A40 turned39.length c41)), (9, .v (.int .i64 (IntKind.i64.wrap (k99 + 1))))], [], [], 0⟩ (by kernel_rfl) ?_
                      exact g_again q100 ⟨(IntKind.i64.wrap (k99 + 1)), rfl, hl102, le98⟩ (Nat.lt_succ_self _)
              · replace hl102 := if_f (of_decide_eq_false hc117) hl102
                refine dx_exec (fuel := 0) [] [15, 16, 17, 18, 19, 20, 21, 22, 23, 24, 25, 26, 27, 28, 29, 30, 31, 32, 33, 34, 35, 36, 37, 38, 39, 40, 41, 42, 43, 44, 45, 46, 47, 48, 49, 50, 51, 52, 53, 54, 55, 56] [0, 3, 4, 5, 9, 125] [] [] [true, true, true, true, true, true, true, true, true, true, true, true, true, true, true, true, true, true, true, true, true, true, true, true, true, true, true, true, true, true, true, true, true, true, true, true, true, true, true, true, true, true, true, true, true, true, true, true, true, true, true, true, true, true, true, true, true] ⟨[(0, .v (.slice A2 l1.length c3)), (3, .v (.bool r7)), (4, .v (.slice A20 r16.length c21)), (5, .v (.slice A40 turned39.length c41)), (9, .v (.int .i64 k99)), (125, .v (.bool false))], [], [], 0⟩ (by kernel_rfl) (fun _ _ h => h) (by kernel_rfl) (by kernel_rfl) ?_ rfl
                refine d_end (by kernel_rfl) ?_
                refine n_then ?_
                refine g_cond false (by kernel_rfl) (fun hc => ?_) (fun hc => ?_)
                · cases hc
                · refine g_skip ?_
                  refine n_block ?_
                  refine n_then ?_
                  refine g_region ?_
                  refine g_exec 3 [0, 3, 4, 5, 9] [] [] (fun _ => ⟨[(0, .v (.slice A2 l1.length c3)), (3, .v (.bool r7)), (4, .v (.slice A20 r16.length c21)), (5, .v (.slice A40 turned39.length c41)), (9, .v (.int .i64 (IntKind.i64.wrap (k99 + 1))))], [], [], 0⟩) (fun _ => by kernel_rfl) fun _ => ?_
                  refine g_end (by kernel_rfl) ?_
                  refine n_then ?_
                  refine g_fin [0, 3, 4, 5, 9] [] [] ⟨[(0, .v (.slice A2 l1.length c3)), (3, .v (.bool r7)), (4, .v (.slice A20 r16.length c21)), (5, .v (.slice A40 turned39.length c41)), (9, .v (.int .i64 (IntKind.i64.wrap (k99 + 1))))], [], [], 0⟩ (by kernel_rfl) ?_
                  exact g_again q100 ⟨(IntKind.i64.wrap (k99 + 1)), rfl, hl102, le98⟩ (Nat.lt_succ_self _)
          · replace hl102 := if_f (of_decide_eq_false hc108) hl102
            refine g_exit ?_
            refine n_then_exit ?_
            refine n_then_exit ?_
            refine n_block_exit ?_
            refine g_fin [0, 3, 4, 5] [] [] ⟨[(0, .v (.slice A2 l1.length c3)), (3, .v (.bool r7)), (4, .v (.slice A20 r16.length c21)), (5, .v (.slice A40 turned39.length c41))], [], [], 0⟩ (by kernel_rfl) ?_
            exact n_join ⟨rfl, some_inj hl102, le98⟩
      · rintro M104 _ ⟨rfl, ht101, le105⟩
        subst ht101
        replace h := orOn_r h
        refine n_then ?_
        refine g_seq ?_
        refine g_region ?_
        refine g_exec 2 [0, 4, 5, 127] [] [] (fun _ => ⟨[(0, .v (.slice A2 l1.length c3)), (4, .v (.slice A20 r16.length c21)), (5, .v (.slice A40 turned39.length c41)), (127, .v (.bool r7))], [], [], 0⟩) (fun _ => by kernel_rfl) fun _ => ?_
        refine g_bool 127 (r7) (by kernel_rfl) (fun hc133 => ?_) (fun hc133 => ?_)
        · replace h := if_t hc133 h
          refine g_exec 1 [0, 4, 5, 127, 128] [] [] (fun _ => ⟨[(0, .v (.slice A2 l1.length c3)), (4, .v (.slice A20 r16.length c21)), (5, .v (.slice A40 turned39.length c41)), (127, .v (.bool true)), (128, .v (.slice A20 r16.length c21))], [], [], 0⟩) (fun _ => by kernel_rfl) fun _ => ?_
          obtain ⟨r135, h136, h⟩ := bind_t h
          refine g_call (dst := some 129) (g := 17) (args := [.slice A20 r16.length c21]) (by kernel_rfl) (by kernel_rfl) (fun v M' => ∃ (A1 : Option Addr) (c2 : Nat), v = .slice A1 r135.length c2 ∧ SlF (fl chP) 2 M' A1 r135 c2) (by intro w hst; exact normP_calls hst.sat r16 A20 c21 (SlF.le hA22 (fun _ _ h => le105 _ _ (le38 _ _ h))) h136) ?_
          rintro _ M137 le138 ⟨A139, c140, rfl, hA141⟩
          refine g_exec 1 [0, 4, 5, 127, 129, 130] [] [] (fun _ => ⟨[(0, .v (.slice A2 l1.length c3)), (4, .v (.slice A20 r16.length c21)), (5, .v (.slice A40 turned39.length c41)), (127, .v (.bool true)), (129, .v (.slice A139 r135.length c140)), (130, .v (.slice A20 r16.length c21))], [], [], 0⟩) (fun _ => by kernel_rfl) fun _ => ?_
          obtain ⟨r143, h144, h⟩ := bind_t h
          refine g_call (dst := some 131) (g := 32) (args := [.slice A139 r135.length c140, .slice A20 r16.length c21]) (by kernel_rfl) (by kernel_rfl) (fun v _ => v = .bool r143) (by intro w hst; exact law10_same_calls k hst.sat r135 A139 c140 hA141 r16 A20 c21 (SlF.le hA22 (fun _ _ h => le138 _ _ (le105 _ _ (le38 _ _ h)))) h144) ?_
          rintro _ M145 le146 rfl
          refine g_exec 2 [0, 4, 5, 133] [] [] (fun _ => ⟨[(0, .v (.slice A2 l1.length c3)), (4, .v (.slice A20 r16.length c21)), (5, .v (.slice A40 turned39.length c41)), (133, .v (.bool r143))], [], [], 0⟩) (fun _ => by kernel_rfl) fun _ => ?_
          refine g_bool 133 (r143) (by kernel_rfl) (fun hc148 => ?_) (fun hc148 => ?_)
          · replace h := if_t hc148 h
            refine g_exec 1 [0, 4, 133, 134] [] [] (fun _ => ⟨[(0, .v (.slice A2 l1.length c3)), (4, .v (.slice A20 r16.length c21)), (133, .v (.bool true)), (134, .v (.slice A40 turned39.length c41))], [], [], 0⟩) (fun _ => by kernel_rfl) fun _ => ?_
            obtain ⟨r150, h151, h⟩ := bind_t h
            refine g_call (dst := some 135) (g := 17) (args := [.slice A40 turned39.length c41]) (by kernel_rfl) (by kernel_rfl) (fun v M' => ∃ (A1 : Option Addr) (c2 : Nat), v = .slice A1 r150.length c2 ∧ SlF (fl chP) 2 M' A1 r150 c2) (by intro w hst; exact normP_calls hst.sat turned39 A40 c41 (SlF.le hA42 (fun _ _ h => le146 _ _ (le138 _ _ (le105 _ _ h)))) h151) ?_
            rintro _ M152 le153 ⟨A154, c155, rfl, hA156⟩
            refine g_exec 1 [0, 4, 133, 135, 136] [] [] (fun _ => ⟨[(0, .v (.slice A2 l1.length c3)), (4, .v (.slice A20 r16.length c21)), (133, .v (.bool true)), (135, .v (.slice A154 r150.length c155)), (136, .v (.slice A20 r16.length c21))], [], [], 0⟩) (fun _ => by kernel_rfl) fun _ => ?_
            obtain ⟨r158, h159, h⟩ := bind_t h
            refine g_call (dst := some 137) (g := 32) (args := [.slice A154 r150.length c155, .slice A20 r16.length c21]) (by kernel_rfl) (by kernel_rfl) (fun v _ => v = .bool r158) (by intro w hst; exact law10_same_calls k hst.sat r150 A154 c155 hA156 r16 A20 c21 (SlF.le hA22 (fun _ _ h => le153 _ _ (le146 _ _ (le138 _ _ (le105 _ _ (le38 _ _ h)))))) h159) ?_
            rintro _ M160 le161 rfl
            refine g_exec 2 [0, 4, 139] [] [] (fun _ => ⟨[(0, .v (.slice A2 l1.length c3)), (4, .v (.slice A20 r16.length c21)), (139, .v (.bool r158))], [], [], 0⟩) (fun _ => by kernel_rfl) fun _ => ?_
            refine g_bool 139 (r158) (by kernel_rfl) (fun hc163 => ?_) (fun hc163 => ?_)
            · replace h := if_t hc163 h
              refine g_exec 7 [2] [] [] (fun _ => ⟨[(2, .v (.bool (decide ((r16.length : Int) ≤ (l1.length : Int)))))], [], [], 0⟩) (fun _ => by kernel_rfl) fun _ => ?_
              refine g_end (by kernel_rfl) ?_
              refine n_then ?_
              refine g_ret ?_
              obtain rfl := some_inj h
              exact n_post (.bool (decide ((r16.length : Int) ≤ (l1.length : Int)))) (by kernel_rfl) rfl
            · replace h := if_f (ne_t hc163) h
              refine g_exec 7 [2] [] [] (fun _ => ⟨[(2, .v (.bool false))], [], [], 0⟩) (fun _ => by kernel_rfl) fun _ => ?_
              refine g_end (by kernel_rfl) ?_
              refine n_then ?_
              refine g_ret ?_
              obtain rfl := some_inj h
              exact n_post (.bool false) (by kernel_rfl) rfl
          · replace h := if_f (ne_t hc148) h
            refine g_exec 13 [2] [] [] (fun _ => ⟨[(2, .v (.bool false))], [], [], 0⟩) (fun _ => by kernel_rfl) fun _ => ?_
            refine g_end (by kernel_rfl) ?_
            refine n_then ?_
            refine g_ret ?_
            obtain rfl := some_inj h
            exact n_post (.bool false) (by kernel_rfl) rfl
        · replace h := if_f (ne_t hc133) h
          refine g_exec 19 [2] [] [] (fun _ => ⟨[(2, .v (.bool false))], [], [], 0⟩) (fun _ => by kernel_rfl) fun _ => ?_
          refine g_end (by kernel_rfl) ?_
          refine n_then ?_
          refine g_ret ?_
          obtain rfl := some_inj h
          exact n_post (.bool false) (by kernel_rfl) rfl
end Go.Ch
