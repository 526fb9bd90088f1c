import Derived.Test.YtpnkncinmoogpaaGreatDoorTAdapt
set_option linter.unusedVariables false
namespace Go.Ch
open Go Go.Eng Go.Proofs
def law10_AtomVars_l3 (r16 : (List Int)) (x70 : Int) : Nat → Bool → Int → Option (Bool)
  | 0, _, _ => none
  | q + 1, met82, k83 => (if k83 < (r16.length : Int) then (if met82 = true then law10_AtomVars_l3 r16 x70 q true (IntKind.i64.wrap (k83 + 1)) else ((idx r16 k83)).bind fun x99 => law10_AtomVars_l3 r16 x70 q (x99 == x70) (IntKind.i64.wrap (k83 + 1))) else some met82)
def law10_AtomVars_l4 (r25 : (List Int)) (x70 : Int) : Nat → Bool → Int → Option (Bool)
  | 0, _, _ => none
  | q + 1, met111, k112 => (if k112 < (r25.length : Int) then (if met111 = true then law10_AtomVars_l4 r25 x70 q true (IntKind.i64.wrap (k112 + 1)) else ((idx r25 k112)).bind fun x128 => ((pointP x128)).bind fun r136 => law10_AtomVars_l4 r25 x70 q (r136 == x70) (IntKind.i64.wrap (k112 + 1))) else some met111)
def law10_AtomVars_l2 (k0 : Nat) (r16 : (List Int)) (r25 : (List Int)) (x46 : Int × Int) : Nat → Int → Option ((Bool) ⊕ (Unit))
  | 0, _ => none
  | q + 1, x59 => (if x59 < (([x46.1, x46.2] : List Int).length : Int) then ((idx ([x46.1, x46.2] : List Int) x59)).bind fun x70 => (law10_AtomVars_l3 r16 x70 k0 false 0).bind (fun met90 => (law10_AtomVars_l4 r25 x70 k0 met90 0).bind (fun met119 => (if met119 = true then law10_AtomVars_l2 k0 r16 r25 x46 q (IntKind.i64.wrap (x59 + 1)) else some (.inl false)))) else some (.inr ()))
def law10_AtomVars_l1 (k0 : Nat) (l1 : List (Int × Int)) (r16 : (List Int)) (r25 : (List Int)) : Nat → Int → Option ((Bool) ⊕ (Unit))
  | 0, _ => none
  | q + 1, i36 => (if i36 < (l1.length : Int) then ((idx l1 i36)).bind fun x46 => (law10_AtomVars_l2 k0 r16 r25 x46 k0 0).bind (orOn (fun r => some (.inl r)) (fun _ => law10_AtomVars_l1 k0 l1 r16 r25 q (IntKind.i64.wrap (i36 + 1)))) else some (.inr ()))
def law10_AtomVars_l5 (r16 : (List Int)) : Nat → Int → Option ((Bool) ⊕ (Unit))
  | 0, _ => none
  | q + 1, k150 => (if k150 < (r16.length : Int) then ((idx r16 k150)).bind fun x160 => (if x160 < 0 then some (.inl false) else (if k150 > 0 then ((idx r16 (IntKind.i64.wrap (k150 - 1)))).bind fun x169 => (if x169 ≥ x160 then some (.inl false) else law10_AtomVars_l5 r16 q (IntKind.i64.wrap (k150 + 1))) else law10_AtomVars_l5 r16 q (IntKind.i64.wrap (k150 + 1)))) else some (.inr ()))
def law10_AtomVars_l6 (r25 : (List Int)) : Nat → Int → Option ((Bool) ⊕ (Unit))
  | 0, _ => none
  | q + 1, k182 => (if k182 < (r25.length : Int) then ((idx r25 k182)).bind fun x192 => (if x192 < 0 then some (.inl false) else (if k182 > 0 then ((idx r25 (IntKind.i64.wrap (k182 - 1)))).bind fun x201 => (if x201 ≥ x192 then some (.inl false) else law10_AtomVars_l6 r25 q (IntKind.i64.wrap (k182 + 1))) else law10_AtomVars_l6 r25 q (IntKind.i64.wrap (k182 + 1)))) else some (.inr ()))
def law10_AtomVars (k : Nat) (l1 : List (Int × Int)) : Option (Bool) := ((exP)).bind fun r7 => (if r7 = true then ((varsP l1)).bind fun r16 => ((pointsP l1)).bind fun r25 => (law10_AtomVars_l1 k l1 r16 r25 k 0).bind (orOn some (fun _ => (law10_AtomVars_l5 r16 k 0).bind (orOn some (fun _ => (law10_AtomVars_l6 r25 k 0).bind (orOn some (fun _ => (if r7 = true then some (decide ((IntKind.i64.wrap ((r16.length : Int) + (r25.length : Int))) ≤ (IntKind.i64.wrap (2 * (l1.length : Int))))) else some false))))))) else some false)
theorem law10_AtomVars_calls (k : Nat) {M : Mem} {w : World} (hM : Sat M w) (hT : TabW w) (l1 : List (Int × Int)) (A2 : Option Addr) (c3 : Nat) (hA4 : SlF (fl chP) 2 M A2 l1 c3) {r : Bool} (h : law10_AtomVars k l1 = some r) : Ct Tryz.prog 6 [.slice A2 l1.length c3] [] w M (fun v _ => v = .bool r) := by
  unfold law10_AtomVars at h
  refine enter (n := 143) Tryz.func6 rfl rfl _ (by kernel_rfl) hM ?_
  refine g_seq ?_
  refine g_region ?_
  refine g_exec 1 [0] [] [] (fun _ => ⟨[(0, .v (.slice A2 l1.length c3))], [], [], 0⟩) (fun _ => by kernel_rfl) fun _ => ?_
  refine g_end (by kernel_rfl) ?_
  refine n_then ?_
  refine g_seq ?_
  refine g_region ?_
  obtain ⟨r7, h8, h⟩ := bind_t h
  refine g_call (dst := some 14) (g := 9) (args := []) (by kernel_rfl) (by kernel_rfl) (fun v _ => v = .bool r7) (by intro w hst; exact exP_calls hst.sat (hT.ext hst.ext0)  h8) ?_
  rintro _ M9 le10 rfl
  refine g_exec 1 [0, 3] [] [] (fun _ => ⟨[(0, .v (.slice A2 l1.length c3)), (3, .v (.bool r7))], [], [], 0⟩) (fun _ => by kernel_rfl) fun _ => ?_
  refine g_end (by kernel_rfl) ?_
  refine n_then ?_
  refine g_seq ?_
  refine g_seq ?_
  refine g_region ?_
  refine g_exec 2 [0, 3, 16] [] [] (fun _ => ⟨[(0, .v (.slice A2 l1.length c3)), (3, .v (.bool r7)), (16, .v (.bool (!r7)))], [], [], 0⟩) (fun _ => by kernel_rfl) fun _ => ?_
  refine g_end (by kernel_rfl) ?_
  refine n_then ?_
  refine g_cond (!r7) (by kernel_rfl) (fun hc13 => ?_) (fun hc13 => ?_)
  · replace h := if_f (ne_t (bnot_t hc13)) h
    refine g_seq ?_
    refine g_region ?_
    refine g_exec 1 [2] [] [] (fun _ => ⟨[(2, .v (.bool false))], [], [], 0⟩) (fun _ => by kernel_rfl) fun _ => ?_
    refine g_end (by kernel_rfl) ?_
    refine n_then ?_
    refine g_ret ?_
    refine n_then_ret ?_
    obtain rfl := some_inj h
    exact n_post (.bool false) (by kernel_rfl) rfl
  · replace h := if_t (bnot_f hc13) h
    refine g_skip ?_
    refine n_then ?_
    refine g_seq ?_
    refine g_region ?_
    refine g_exec 1 [0, 3, 17] [] [] (fun _ => ⟨[(0, .v (.slice A2 l1.length c3)), (3, .v (.bool r7)), (17, .v (.slice A2 l1.length c3))], [], [], 0⟩) (fun _ => by kernel_rfl) fun _ => ?_
    obtain ⟨r16, h17, h⟩ := bind_t h
    refine g_call (dst := some 18) (g := 12) (args := [.slice A2 l1.length c3]) (by kernel_rfl) (by kernel_rfl) (fun v M' => ∃ (A1 : Option Addr) (c2 : Nat), v = .slice A1 r16.length c2 ∧ SlF (fl chI) 1 M' A1 r16 c2) (by intro w hst; exact varsP_calls hst.sat l1 A2 c3 (SlF.le hA4 le10) h17) ?_
    rintro _ M18 le19 ⟨A20, c21, rfl, hA22⟩
    refine g_exec 1 [0, 3, 4] [] [] (fun _ => ⟨[(0, .v (.slice A2 l1.length c3)), (3, .v (.bool r7)), (4, .v (.slice A20 r16.length c21))], [], [], 0⟩) (fun _ => by kernel_rfl) fun _ => ?_
    refine g_end (by kernel_rfl) ?_
    refine n_then ?_
    refine g_seq ?_
    refine g_region ?_
    refine g_exec 1 [0, 3, 4, 19] [] [] (fun _ => ⟨[(0, .v (.slice A2 l1.length c3)), (3, .v (.bool r7)), (4, .v (.slice A20 r16.length c21)), (19, .v (.slice A2 l1.length c3))], [], [], 0⟩) (fun _ => by kernel_rfl) fun _ => ?_
    obtain ⟨r25, h26, h⟩ := bind_t h
    refine g_call (dst := some 20) (g := 14) (args := [.slice A2 l1.length c3]) (by kernel_rfl) (by kernel_rfl) (fun v M' => ∃ (A1 : Option Addr) (c2 : Nat), v = .slice A1 r25.length c2 ∧ SlF (fl chI) 1 M' A1 r25 c2) (by intro w hst; exact pointsP_calls hst.sat l1 A2 c3 (SlF.le hA4 (fun _ _ h => le19 _ _ (le10 _ _ h))) h26) ?_
    rintro _ M27 le28 ⟨A29, c30, rfl, hA31⟩
    refine g_exec 1 [0, 3, 4, 5] [] [] (fun _ => ⟨[(0, .v (.slice A2 l1.length c3)), (3, .v (.bool r7)), (4, .v (.slice A20 r16.length c21)), (5, .v (.slice A29 r25.length c30))], [], [], 0⟩) (fun _ => by kernel_rfl) fun _ => ?_
    refine g_end (by kernel_rfl) ?_
    refine n_then ?_
    refine g_seq ?_
    refine g_seq ?_
    refine g_region ?_
    refine g_exec 1 [0, 3, 4, 5, 6] [] [] (fun _ => ⟨[(0, .v (.slice A2 l1.length c3)), (3, .v (.bool r7)), (4, .v (.slice A20 r16.length c21)), (5, .v (.slice A29 r25.length c30)), (6, .v (.int .i64 0))], [], [], 0⟩) (fun _ => by kernel_rfl) fun _ => ?_
    refine g_end (by kernel_rfl) ?_
    refine n_then ?_
    refine g_fin [0, 3, 4, 5, 6] [] [] ⟨[(0, .v (.slice A2 l1.length c3)), (3, .v (.bool r7)), (4, .v (.slice A20 r16.length c21)), (5, .v (.slice A29 r25.length c30)), (6, .v (.int .i64 0))], [], [], 0⟩ (by kernel_rfl) ?_
    obtain ⟨t40, h43, h⟩ := bind_t h
    refine g_blockJ (fun M41 s => s = ⟨[(0, .v (.slice A2 l1.length c3)), (3, .v (.bool r7)), (4, .v (.slice A20 r16.length c21)), (5, .v (.slice A29 r25.length c30))], [], [], 0⟩ ∧ .inr () = t40 ∧ (∀ a u, M27 a = some u → M41 a = some u)) ?_ ?_
    · refine g_while (ι := Nat) (fun q37 M34 s => ∃ (i36 : Int), s = ⟨[(0, .v (.slice A2 l1.length c3)), (3, .v (.bool r7)), (4, .v (.slice A20 r16.length c21)), (5, .v (.slice A29 r25.length c30)), (6, .v (.int .i64 i36))], [], [], 0⟩ ∧ law10_AtomVars_l1 k l1 r16 r25 q37 i36 = some t40 ∧ (∀ a u, M27 a = some u → M34 a = some u)) (fun q37 => q37) k ⟨0, rfl, h43, (fun _ _ h => h)⟩ ?_
      rintro q37 M34 _ ⟨i36, rfl, hl39, le35⟩
      obtain _ | q37 := q37
      · cases hl39
      · rw [law10_AtomVars_l1] at hl39
        refine g_seq ?_
        refine g_seq ?_
        refine g_region ?_
        refine g_exec 4 [0, 3, 4, 5, 6, 24] [] [] (fun _ => ⟨[(0, .v (.slice A2 l1.length c3)), (3, .v (.bool r7)), (4, .v (.slice A20 r16.length c21)), (5, .v (.slice A29 r25.length c30)), (6, .v (.int .i64 i36)), (24, .v (.bool (decide (i36 < (l1.length : Int)))))], [], [], 0⟩) (fun _ => by kernel_rfl) fun _ => ?_
        refine g_end (by kernel_rfl) ?_
        refine n_then ?_
        refine g_cond (decide (i36 < (l1.length : Int))) (by kernel_rfl) (fun hc45 => ?_) (fun hc45 => ?_)
        · replace hl39 := if_t (of_decide_eq_true hc45) hl39
          refine g_skip ?_
          refine n_then ?_
          refine g_seq ?_
          refine g_block ?_
          refine g_seq ?_
          refine d_begin (by kernel_rfl) [] [] 13 (by kernel_rfl) ?_
          refine dx_exec (fuel := 8) [] [0, 1, 5, 6, 12] [0, 3, 4, 5, 6, 27, 28, 32, 33, 39] [] [] [true, true, false, false, false, true, true, false, false, false, false, false, true] ⟨[(0, .v (.slice A2 l1.length c3)), (3, .v (.bool r7)), (4, .v (.slice A20 r16.length c21)), (5, .v (.slice A29 r25.length c30)), (6, .v (.int .i64 i36)), (27, .v (.slice A2 l1.length c3)), (28, .v (.int .i64 i36)), (32, .v (.slice A2 l1.length c3)), (33, .v (.int .i64 i36)), (39, .v (.int .i64 0))], [], [], 0⟩ (by kernel_rfl) (fun _ _ h => h) (by kernel_rfl) (by kernel_rfl) ?_ rfl
          obtain ⟨x46, h47, hl39⟩ := bind_t hl39
          obtain ⟨b48, o49, _, hA50, rfl, hc51⟩ := SlF.at hA4 h47
          refine dx_yld (fuel := 7) (i := 2) [] [true, true, true, false, false, true, true, false, false, false, false, false, true] (by kernel_rfl) (fun _ _ h => h) (by kernel_rfl) (y_indexA (dst := some 29) (A := A2) (len := l1.length) (kk := .i64) (ii := i36) (sz := 2) (by kernel_rfl) hA50 (xs := l1) rfl h47) (by kernel_rfl) (by kernel_rfl) ?_ rfl
          refine dx_exec (fuel := 6) [] [3] [0, 3, 4, 5, 6, 30, 32, 33, 39] [] [] [true, true, true, true, false, true, true, false, false, false, false, false, true] ⟨[(0, .v (.slice A2 l1.length c3)), (3, .v (.bool r7)), (4, .v (.slice A20 r16.length c21)), (5, .v (.slice A29 r25.length c30)), (6, .v (.int .i64 i36)), (30, .v (.pointer (some ⟨b48, o49 + (i36).toNat * 2, none⟩))), (32, .v (.slice A2 l1.length c3)), (33, .v (.int .i64 i36)), (39, .v (.int .i64 0))], [], [], 0⟩ (by kernel_rfl) (fun _ _ h => h) (by kernel_rfl) (by kernel_rfl) ?_ rfl
          refine dx_yld (fuel := 5) (i := 4) [] [true, true, true, true, true, true, true, false, false, false, false, false, true] (by kernel_rfl) (fun _ _ h => h) (by kernel_rfl) (y_load1 (dst := some 31) (ad := ⟨b48, o49 + (i36).toNat * 2, none⟩) (sz := 1) (by kernel_rfl) (v := .int .i64 x46.1) (le35 _ _ (le28 _ _ (le19 _ _ (le10 _ _ (hc51 0 _ rfl)))))) (by kernel_rfl) (by kernel_rfl) ?_ rfl
          refine dx_yld (fuel := 4) (i := 7) [] [true, true, true, true, true, true, true, true, false, false, false, false, true] (by kernel_rfl) (fun _ _ h => h) (by kernel_rfl) (y_indexA (dst := some 34) (A := A2) (len := l1.length) (kk := .i64) (ii := i36) (sz := 2) (by kernel_rfl) hA50 (xs := l1) rfl h47) (by kernel_rfl) (by kernel_rfl) ?_ rfl
          refine dx_exec (fuel := 3) [] [8] [0, 3, 4, 5, 6, 31, 35, 39] [] [] [true, true, true, true, true, true, true, true, true, false, false, false, true] ⟨[(0, .v (.slice A2 l1.length c3)), (3, .v (.bool r7)), (4, .v (.slice A20 r16.length c21)), (5, .v (.slice A29 r25.length c30)), (6, .v (.int .i64 i36)), (31, .v (.int .i64 x46.1)), (35, .v (.pointer (some ⟨b48, o49 + (i36).toNat * 2 + 1, none⟩))), (39, .v (.int .i64 0))], [], [], 0⟩ (by kernel_rfl) (fun _ _ h => h) (by kernel_rfl) (by kernel_rfl) ?_ rfl
          refine dx_yld (fuel := 2) (i := 9) [] [true, true, true, true, true, true, true, true, true, true, false, false, true] (by kernel_rfl) (fun _ _ h => h) (by kernel_rfl) (y_load1 (dst := some 36) (ad := ⟨b48, o49 + (i36).toNat * 2 + 1, none⟩) (sz := 1) (by kernel_rfl) (v := .int .i64 x46.2) (le35 _ _ (le28 _ _ (le19 _ _ (le10 _ _ (hc51 1 _ rfl)))))) (by kernel_rfl) (by kernel_rfl) ?_ rfl
          refine dx_op (fuel := 1) (i := 10) [true, true, true, true, true, true, true, true, true, true, true, false, true] (by kernel_rfl) (by kernel_rfl) ?_ rfl
          refine o_step (used := true) (fun f52 => ⟨[(37, .v (.slice (some ⟨f52, 0, none⟩) 2 2)), (36, .v (.int .i64 x46.2)), (0, .v (.slice A2 l1.length c3)), (3, .v (.bool r7)), (4, .v (.slice A20 r16.length c21)), (5, .v (.slice A29 r25.length c30)), (6, .v (.int .i64 i36)), (31, .v (.int .i64 x46.1)), (35, .v (.pointer (some ⟨b48, o49 + (i36).toNat * 2 + 1, none⟩))), (39, .v (.int .i64 0))], [(0, .cells f52 [.int .i64 x46.1, .int .i64 x46.2] 24)], [], 1⟩) rfl (by kernel_rfl) (fun _ => by kernel_rfl) (fun f52 => ?_)
          refine dx_know [] (fun _ _ h => h) (by kernel_rfl) ?_
          refine g_pubL 0 (b := f52) (t := 24) (cs := [.int .i64 x46.1, .int .i64 x46.2]) (by rfl) ?_
          intro M53 le54 hp55
          have hA56 : SlF (fl chI) 1 M53 (some ⟨f52, 0, none⟩) ([x46.1, x46.2] : List Int) 2 := SlF.lit (Cells.cons (rep := (fl chI) M53) (sz := 1) (x := x46.1) (c := [.int .i64 x46.1]) (rfl) rfl (Cells.cons (rep := (fl chI) M53) (sz := 1) (x := x46.2) (c := [.int .i64 x46.2]) (rfl) rfl (Cells.nil'))) rfl hp55
          refine dx_exec (fuel := 0) [] [11] [0, 3, 4, 5, 6, 37, 38, 39] [] [] [true, true, true, true, true, true, true, true, true, true, true, true, true] ⟨[(0, .v (.slice A2 l1.length c3)), (3, .v (.bool r7)), (4, .v (.slice A20 r16.length c21)), (5, .v (.slice A29 r25.length c30)), (6, .v (.int .i64 i36)), (37, .v (.slice (some ⟨f52, 0, none⟩) ([x46.1, x46.2] : List Int).length 2)), (38, .v (.int .i64 (([x46.1, x46.2] : List Int).length : Int))), (39, .v (.int .i64 0))], [], [], 0⟩ (by kernel_rfl) le54 (by kernel_rfl) (by kernel_rfl) ?_ rfl
          refine d_end (by kernel_rfl) ?_
          refine n_then ?_
          refine g_fin [0, 3, 4, 5, 6, 37, 38, 39] [] [] ⟨[(0, .v (.slice A2 l1.length c3)), (3, .v (.bool r7)), (4, .v (.slice A20 r16.length c21)), (5, .v (.slice A29 r25.length c30)), (6, .v (.int .i64 i36)), (37, .v (.slice (some ⟨f52, 0, none⟩) ([x46.1, x46.2] : List Int).length 2)), (38, .v (.int .i64 (([x46.1, x46.2] : List Int).length : Int))), (39, .v (.int .i64 0))], [], [], 0⟩ (by kernel_rfl) ?_
          obtain ⟨t63, h66, hl39⟩ := bind_t hl39
          refine g_blockJ (fun M64 s => s = ⟨[(0, .v (.slice A2 l1.length c3)), (3, .v (.bool r7)), (4, .v (.slice A20 r16.length c21)), (5, .v (.slice A29 r25.length c30)), (6, .v (.int .i64 i36))], [], [], 0⟩ ∧ .inr () = t63 ∧ (∀ a u, M53 a = some u → M64 a = some u)) ?_ ?_
          · refine g_while (ι := Nat) (fun q60 M57 s => ∃ (x59 : Int), s = ⟨[(0, .v (.slice A2 l1.length c3)), (3, .v (.bool r7)), (4, .v (.slice A20 r16.length c21)), (5, .v (.slice A29 r25.length c30)), (6, .v (.int .i64 i36)), (37, .v (.slice (some ⟨f52, 0, none⟩) ([x46.1, x46.2] : List Int).length 2)), (38, .v (.int .i64 (([x46.1, x46.2] : List Int).length : Int))), (39, .v (.int .i64 x59))], [], [], 0⟩ ∧ law10_AtomVars_l2 k r16 r25 x46 q60 x59 = some t63 ∧ (∀ a u, M53 a = some u → M57 a = some u)) (fun q60 => q60) k ⟨0, rfl, h66, (fun _ _ h => h)⟩ ?_
            rintro q60 M57 _ ⟨x59, rfl, hl62, le58⟩
            obtain _ | q60 := q60
            · cases hl62
            · rw [law10_AtomVars_l2] at hl62
              refine g_seq ?_
              refine g_region ?_
              refine g_exec 1 [0, 3, 4, 5, 6, 37, 38, 39, 40] [] [] (fun _ => ⟨[(0, .v (.slice A2 l1.length c3)), (3, .v (.bool r7)), (4, .v (.slice A20 r16.length c21)), (5, .v (.slice A29 r25.length c30)), (6, .v (.int .i64 i36)), (37, .v (.slice (some ⟨f52, 0, none⟩) ([x46.1, x46.2] : List Int).length 2)), (38, .v (.int .i64 (([x46.1, x46.2] : List Int).length : Int))), (39, .v (.int .i64 x59)), (40, .v (.bool (decide (x59 < (([x46.1, x46.2] : List Int).length : Int)))))], [], [], 0⟩) (fun _ => by kernel_rfl) fun _ => ?_
              refine g_end (by kernel_rfl) ?_
              refine n_then ?_
              refine g_seq ?_
              refine g_cond (decide (x59 < (([x46.1, x46.2] : List Int).length : Int))) (by kernel_rfl) (fun hc68 => ?_) (fun hc68 => ?_)
              · replace hl62 := if_t (of_decide_eq_true hc68) hl62
                refine g_skip ?_
                refine n_then ?_
                refine g_seq ?_
                refine g_block ?_
                refine g_seq ?_
                refine g_region ?_
                obtain ⟨x70, h71, hl62⟩ := bind_t hl62
                obtain ⟨b72, o73, _, hA74, rfl, hc75⟩ := SlF.at hA56 h71
                refine g_yld (y_indexA (dst := some 41) (A := (some ⟨f52, 0, none⟩)) (len := ([x46.1, x46.2] : List Int).length) (kk := .i64) (ii := x59) (sz := 1) (by kernel_rfl) hA74 (xs := ([x46.1, x46.2] : List Int)) rfl h71) ?_
                refine g_yld (y_load1 (dst := some 42) (ad := ⟨b72, o73 + (x59).toNat * 1, none⟩) (sz := 1) (by kernel_rfl) (v := .int .i64 x70) (le58 _ _ (hc75 0 _ rfl))) ?_
                refine g_exec 1 [0, 3, 4, 5, 6, 8, 37, 38, 39] [] [] (fun _ => ⟨[(0, .v (.slice A2 l1.length c3)), (3, .v (.bool r7)), (4, .v (.slice A20 r16.length c21)), (5, .v (.slice A29 r25.length c30)), (6, .v (.int .i64 i36)), (8, .v (.int .i64 x70)), (37, .v (.slice (some ⟨f52, 0, none⟩) ([x46.1, x46.2] : List Int).length 2)), (38, .v (.int .i64 (([x46.1, x46.2] : List Int).length : Int))), (39, .v (.int .i64 x59))], [], [], 0⟩) (fun _ => by kernel_rfl) fun _ => ?_
                refine g_end (by kernel_rfl) ?_
                refine n_then ?_
                refine g_seq ?_
                refine g_region ?_
                refine g_exec 1 [0, 3, 4, 5, 6, 8, 9, 37, 38, 39] [] [] (fun _ => ⟨[(0, .v (.slice A2 l1.length c3)), (3, .v (.bool r7)), (4, .v (.slice A20 r16.length c21)), (5, .v (.slice A29 r25.length c30)), (6, .v (.int .i64 i36)), (8, .v (.int .i64 x70)), (9, .v (.bool false)), (37, .v (.slice (some ⟨f52, 0, none⟩) ([x46.1, x46.2] : List Int).length 2)), (38, .v (.int .i64 (([x46.1, x46.2] : List Int).length : Int))), (39, .v (.int .i64 x59))], [], [], 0⟩) (fun _ => by kernel_rfl) fun _ => ?_
                refine g_end (by kernel_rfl) ?_
                refine n_then ?_
                refine g_seq ?_
                refine g_seq ?_
                refine g_region ?_
                refine g_exec 1 [0, 3, 4, 5, 6, 8, 9, 10, 37, 38, 39] [] [] (fun _ => ⟨[(0, .v (.slice A2 l1.length c3)), (3, .v (.bool r7)), (4, .v (.slice A20 r16.length c21)), (5, .v (.slice A29 r25.length c30)), (6, .v (.int .i64 i36)), (8, .v (.int .i64 x70)), (9, .v (.bool false)), (10, .v (.int .i64 0)), (37, .v (.slice (some ⟨f52, 0, none⟩) ([x46.1, x46.2] : List Int).length 2)), (38, .v (.int .i64 (([x46.1, x46.2] : List Int).length : Int))), (39, .v (.int .i64 x59))], [], [], 0⟩) (fun _ => by kernel_rfl) fun _ => ?_
                refine g_end (by kernel_rfl) ?_
                refine n_then ?_
                refine g_fin [0, 3, 4, 5, 6, 8, 9, 10, 37, 38, 39] [] [] ⟨[(0, .v (.slice A2 l1.length c3)), (3, .v (.bool r7)), (4, .v (.slice A20 r16.length c21)), (5, .v (.slice A29 r25.length c30)), (6, .v (.int .i64 i36)), (8, .v (.int .i64 x70)), (9, .v (.bool false)), (10, .v (.int .i64 0)), (37, .v (.slice (some ⟨f52, 0, none⟩) ([x46.1, x46.2] : List Int).length 2)), (38, .v (.int .i64 (([x46.1, x46.2] : List Int).length : Int))), (39, .v (.int .i64 x59))], [], [], 0⟩ (by kernel_rfl) ?_
                obtain ⟨t87, h91, hl62⟩ := bind_t hl62
                refine g_blockJ (fun M88 s => ∃ (met90 : Bool), s = ⟨[(0, .v (.slice A2 l1.length c3)), (3, .v (.bool r7)), (4, .v (.slice A20 r16.length c21)), (5, .v (.slice A29 r25.length c30)), (6, .v (.int .i64 i36)), (8, .v (.int .i64 x70)), (9, .v (.bool met90)), (37, .v (.slice (some ⟨f52, 0, none⟩) ([x46.1, x46.2] : List Int).length 2)), (38, .v (.int .i64 (([x46.1, x46.2] : List Int).length : Int))), (39, .v (.int .i64 x59))], [], [], 0⟩ ∧ met90 = t87 ∧ (∀ a u, M57 a = some u → M88 a = some u)) ?_ ?_
                · refine g_while (ι := Nat) (fun q84 M80 s => ∃ (met82 : Bool) (k83 : Int), s = ⟨[(0, .v (.slice A2 l1.length c3)), (3, .v (.bool r7)), (4, .v (.slice A20 r16.length c21)), (5, .v (.slice A29 r25.length c30)), (6, .v (.int .i64 i36)), (8, .v (.int .i64 x70)), (9, .v (.bool met82)), (10, .v (.int .i64 k83)), (37, .v (.slice (some ⟨f52, 0, none⟩) ([x46.1, x46.2] : List Int).length 2)), (38, .v (.int .i64 (([x46.1, x46.2] : List Int).length : Int))), (39, .v (.int .i64 x59))], [], [], 0⟩ ∧ law10_AtomVars_l3 r16 x70 q84 met82 k83 = some t87 ∧ (∀ a u, M57 a = some u → M80 a = some u)) (fun q84 => q84) k ⟨false, 0, rfl, h91, (fun _ _ h => h)⟩ ?_
                  rintro q84 M80 _ ⟨met82, k83, rfl, hl86, le81⟩
                  obtain _ | q84 := q84
                  · cases hl86
                  · rw [law10_AtomVars_l3] at hl86
                    refine g_seq ?_
                    refine g_seq ?_
                    refine g_region ?_
                    refine g_exec 4 [0, 3, 4, 5, 6, 8, 9, 10, 37, 38, 39, 46] [] [] (fun _ => ⟨[(0, .v (.slice A2 l1.length c3)), (3, .v (.bool r7)), (4, .v (.slice A20 r16.length c21)), (5, .v (.slice A29 r25.length c30)), (6, .v (.int .i64 i36)), (8, .v (.int .i64 x70)), (9, .v (.bool met82)), (10, .v (.int .i64 k83)), (37, .v (.slice (some ⟨f52, 0, none⟩) ([x46.1, x46.2] : List Int).length 2)), (38, .v (.int .i64 (([x46.1, x46.2] : List Int).length : Int))), (39, .v (.int .i64 x59)), (46, .v (.bool (decide (k83 < (r16.length : Int)))))], [], [], 0⟩) (fun _ => by kernel_rfl) fun _ => ?_
                    refine g_end (by kernel_rfl) ?_
                    refine n_then ?_
                    refine g_cond (decide (k83 < (r16.length : Int))) (by kernel_rfl) (fun hc93 => ?_) (fun hc93 => ?_)
                    · replace hl86 := if_t (of_decide_eq_true hc93) hl86
                      refine g_skip ?_
                      refine n_then ?_
                      refine g_seq ?_
                      refine g_block ?_
                      refine g_region ?_
                      refine g_exec 2 [0, 3, 4, 5, 6, 8, 9, 10, 37, 38, 39, 50] [] [] (fun _ => ⟨[(0, .v (.slice A2 l1.length c3)), (3, .v (.bool r7)), (4, .v (.slice A20 r16.length c21)), (5, .v (.slice A29 r25.length c30)), (6, .v (.int .i64 i36)), (8, .v (.int .i64 x70)), (9, .v (.bool met82)), (10, .v (.int .i64 k83)), (37, .v (.slice (some ⟨f52, 0, none⟩) ([x46.1, x46.2] : List Int).length 2)), (38, .v (.int .i64 (([x46.1, x46.2] : List Int).length : Int))), (39, .v (.int .i64 x59)), (50, .v (.bool met82))], [], [], 0⟩) (fun _ => by kernel_rfl) fun _ => ?_
                      refine g_bool 50 (met82) (by kernel_rfl) (fun hc95 => ?_) (fun hc95 => ?_)
                      · replace hl86 := if_t hc95 hl86
                        refine g_exec 8 [0, 3, 4, 5, 6, 8, 9, 10, 37, 38, 39] [] [] (fun _ => ⟨[(0, .v (.slice A2 l1.length c3)), (3, .v (.bool r7)), (4, .v (.slice A20 r16.length c21)), (5, .v (.slice A29 r25.length c30)), (6, .v (.int .i64 i36)), (8, .v (.int .i64 x70)), (9, .v (.bool true)), (10, .v (.int .i64 k83)), (37, .v (.slice (some ⟨f52, 0, none⟩) ([x46.1, x46.2] : List Int).length 2)), (38, .v (.int .i64 (([x46.1, x46.2] : List Int).length : Int))), (39, .v (.int .i64 x59))], [], [], 0⟩) (fun _ => by kernel_rfl) fun _ => ?_
                        refine g_end (by kernel_rfl) ?_
                        refine n_block ?_
                        refine n_then ?_
                        refine g_region ?_
                        refine g_exec 3 [0, 3, 4, 5, 6, 8, 9, 10, 37, 38, 39] [] [] (fun _ => ⟨[(0, .v (.slice A2 l1.length c3)), (3, .v (.bool r7)), (4, .v (.slice A20 r16.length c21)), (5, .v (.slice A29 r25.length c30)), (6, .v (.int .i64 i36)), (8, .v (.int .i64 x70)), (9, .v (.bool true)), (10, .v (.int .i64 (IntKind.i64.wrap (k83 + 1)))), (37, .v (.slice (some ⟨f52, 0, none⟩) ([x46.1, x46.2] : List Int).length 2)), (38, .v (.int .i64 (([x46.1, x46.2] : List Int).length : Int))), (39, .v (.int .i64 x59))], [], [], 0⟩) (fun _ => by kernel_rfl) fun _ => ?_
                        refine g_end (by kernel_rfl) ?_
                        refine n_then ?_
                        refine g_fin [0, 3, 4, 5, 6, 8, 9, 10, 37, 38, 39] [] [] ⟨[(0, .v (.slice A2 l1.length c3)), (3, .v (.bool r7)), (4, .v (.slice A20 r16.length c21)), (5, .v (.slice A29 r25.length c30)), (6, .v (.int .i64 i36)), (8, .v (.int .i64 x70)), (9, .v (.bool true)), (10, .v (.int .i64 (IntKind.i64.wrap (k83 + 1)))), (37, .v (.slice (some ⟨f52, 0, none⟩) ([x46.1, x46.2] : List Int).length 2)), (38, .v (.int .i64 (([x46.1, x46.2] : List Int).length : Int))), (39, .v (.int .i64 x59))], [], [], 0⟩ (by kernel_rfl) ?_
                        exact g_again q84 ⟨true, (IntKind.i64.wrap (k83 + 1)), rfl, hl86, le81⟩ (Nat.lt_succ_self _)
                      · replace hl86 := if_f (ne_t hc95) hl86
                        refine g_exec 2 [0, 3, 4, 5, 6, 8, 9, 10, 37, 38, 39, 50, 51, 52] [] [] (fun _ => ⟨[(0, .v (.slice A2 l1.length c3)), (3, .v (.bool r7)), (4, .v (.slice A20 r16.length c21)), (5, .v (.slice A29 r25.length c30)), (6, .v (.int .i64 i36)), (8, .v (.int .i64 x70)), (9, .v (.bool met82)), (10, .v (.int .i64 k83)), (37, .v (.slice (some ⟨f52, 0, none⟩) ([x46.1, x46.2] : List Int).length 2)), (38, .v (.int .i64 (([x46.1, x46.2] : List Int).length : Int))), (39, .v (.int .i64 x59)), (50, .v (.bool false)), (51, .v (.slice A20 r16.length c21)), (52, .v (.int .i64 k83))], [], [], 0⟩) (fun _ => by kernel_rfl) fun _ => ?_
                        obtain ⟨x99, h100, hl86⟩ := bind_t hl86
                        obtain ⟨b101, o102, _, hA103, rfl, hc104⟩ := SlF.at hA22 h100
                        refine g_yld (y_indexA (dst := some 53) (A := A20) (len := r16.length) (kk := .i64) (ii := k83) (sz := 1) (by kernel_rfl) hA103 (xs := r16) rfl h100) ?_
                        refine g_yld (y_load1 (dst := some 54) (ad := ⟨b101, o102 + (k83).toNat * 1, none⟩) (sz := 1) (by kernel_rfl) (v := .int .i64 x99) (le81 _ _ (le58 _ _ (le54 _ _ (le35 _ _ (le28 _ _ (hc104 0 _ rfl))))))) ?_
                        refine g_exec 4 [0, 3, 4, 5, 6, 8, 9, 10, 37, 38, 39] [] [] (fun _ => ⟨[(0, .v (.slice A2 l1.length c3)), (3, .v (.bool r7)), (4, .v (.slice A20 r16.length c21)), (5, .v (.slice A29 r25.length c30)), (6, .v (.int .i64 i36)), (8, .v (.int .i64 x70)), (9, .v (.bool (x99 == x70))), (10, .v (.int .i64 k83)), (37, .v (.slice (some ⟨f52, 0, none⟩) ([x46.1, x46.2] : List Int).length 2)), (38, .v (.int .i64 (([x46.1, x46.2] : List Int).length : Int))), (39, .v (.int .i64 x59))], [], [], 0⟩) (fun _ => by kernel_rfl) fun _ => ?_
                        refine g_end (by kernel_rfl) ?_
                        refine n_block ?_
                        refine n_then ?_
                        refine g_region ?_
                        refine g_exec 3 [0, 3, 4, 5, 6, 8, 9, 10, 37, 38, 39] [] [] (fun _ => ⟨[(0, .v (.slice A2 l1.length c3)), (3, .v (.bool r7)), (4, .v (.slice A20 r16.length c21)), (5, .v (.slice A29 r25.length c30)), (6, .v (.int .i64 i36)), (8, .v (.int .i64 x70)), (9, .v (.bool (x99 == x70))), (10, .v (.int .i64 (IntKind.i64.wrap (k83 + 1)))), (37, .v (.slice (some ⟨f52, 0, none⟩) ([x46.1, x46.2] : List Int).length 2)), (38, .v (.int .i64 (([x46.1, x46.2] : List Int).length : Int))), (39, .v (.int .i64 x59))], [], [], 0⟩) (fun _ => by kernel_rfl) fun _ => ?_
                        refine g_end (by kernel_rfl) ?_
                        refine n_then ?_
                        refine g_fin [0, 3, 4, 5, 6, 8, 9, 10, 37, 38, 39] [] [] ⟨[(0, .v (.slice A2 l1.length c3)), (3, .v (.bool r7)), (4, .v (.slice A20 r16.length c21)), (5, .v (.slice A29 r25.length c30)), (6, .v (.int .i64 i36)), (8, .v (.int .i64 x70)), (9, .v (.bool (x99 == x70))), (10, .v (.int .i64 (IntKind.i64.wrap (k83 + 1)))), (37, .v (.slice (some ⟨f52, 0, none⟩) ([x46.1, x46.2] : List Int).length 2)), (38, .v (.int .i64 (([x46.1, x46.2] : List Int).length : Int))), (39, .v (.int .i64 x59))], [], [], 0⟩ (by kernel_rfl) ?_
                        exact g_again q84 ⟨(x99 == x70), (IntKind.i64.wrap (k83 + 1)), rfl, hl86, le81⟩ (Nat.lt_succ_self _)
                    · replace hl86 := if_f (of_decide_eq_false hc93) hl86
                      refine g_exit ?_
                      refine n_then_exit ?_
                      refine n_then_exit ?_
                      refine n_block_exit ?_
                      refine g_fin [0, 3, 4, 5, 6, 8, 9, 37, 38, 39] [] [] ⟨[(0, .v (.slice A2 l1.length c3)), (3, .v (.bool r7)), (4, .v (.slice A20 r16.length c21)), (5, .v (.slice A29 r25.length c30)), (6, .v (.int .i64 i36)), (8, .v (.int .i64 x70)), (9, .v (.bool met82)), (37, .v (.slice (some ⟨f52, 0, none⟩) ([x46.1, x46.2] : List Int).length 2)), (38, .v (.int .i64 (([x46.1, x46.2] : List Int).length : Int))), (39, .v (.int .i64 x59))], [], [], 0⟩ (by kernel_rfl) ?_
                      exact n_join ⟨met82, rfl, some_inj hl86, le81⟩
                · rintro M88 _ ⟨met90, rfl, ht85, le89⟩
                  subst ht85
                  refine n_then ?_
                  refine g_seq ?_
                  refine g_seq ?_
                  refine g_region ?_
                  refine g_exec 1 [0, 3, 4, 5, 6, 8, 9, 11, 37, 38, 39] [] [] (fun _ => ⟨[(0, .v (.slice A2 l1.length c3)), (3, .v (.bool r7)), (4, .v (.slice A20 r16.length c21)), (5, .v (.slice A29 r25.length c30)), (6, .v (.int .i64 i36)), (8, .v (.int .i64 x70)), (9, .v (.bool met90)), (11, .v (.int .i64 0)), (37, .v (.slice (some ⟨f52, 0, none⟩) ([x46.1, x46.2] : List Int).length 2)), (38, .v (.int .i64 (([x46.1, x46.2] : List Int).length : Int))), (39, .v (.int .i64 x59))], [], [], 0⟩) (fun _ => by kernel_rfl) fun _ => ?_
                  refine g_end (by kernel_rfl) ?_
                  refine n_then ?_
                  refine g_fin [0, 3, 4, 5, 6, 8, 9, 11, 37, 38, 39] [] [] ⟨[(0, .v (.slice A2 l1.length c3)), (3, .v (.bool r7)), (4, .v (.slice A20 r16.length c21)), (5, .v (.slice A29 r25.length c30)), (6, .v (.int .i64 i36)), (8, .v (.int .i64 x70)), (9, .v (.bool met90)), (11, .v (.int .i64 0)), (37, .v (.slice (some ⟨f52, 0, none⟩) ([x46.1, x46.2] : List Int).length 2)), (38, .v (.int .i64 (([x46.1, x46.2] : List Int).length : Int))), (39, .v (.int .i64 x59))], [], [], 0⟩ (by kernel_rfl) ?_
                  obtain ⟨t116, h120, hl62⟩ := bind_t hl62
                  refine g_blockJ (fun M117 s => ∃ (met119 : Bool), s = ⟨[(0, .v (.slice A2 l1.length c3)), (3, .v (.bool r7)), (4, .v (.slice A20 r16.length c21)), (5, .v (.slice A29 r25.length c30)), (6, .v (.int .i64 i36)), (9, .v (.bool met119)), (37, .v (.slice (some ⟨f52, 0, none⟩) ([x46.1, x46.2] : List Int).length 2)), (38, .v (.int .i64 (([x46.1, x46.2] : List Int).length : Int))), (39, .v (.int .i64 x59))], [], [], 0⟩ ∧ met119 = t116 ∧ (∀ a u, M88 a = some u → M117 a = some u)) ?_ ?_
                  · refine g_while (ι := Nat) (fun q113 M109 s => ∃ (met111 : Bool) (k112 : Int), s = ⟨[(0, .v (.slice A2 l1.length c3)), (3, .v (.bool r7)), (4, .v (.slice A20 r16.length c21)), (5, .v (.slice A29 r25.length c30)), (6, .v (.int .i64 i36)), (8, .v (.int .i64 x70)), (9, .v (.bool met111)), (11, .v (.int .i64 k112)), (37, .v (.slice (some ⟨f52, 0, none⟩) ([x46.1, x46.2] : List Int).length 2)), (38, .v (.int .i64 (([x46.1, x46.2] : List Int).length : Int))), (39, .v (.int .i64 x59))], [], [], 0⟩ ∧ law10_AtomVars_l4 r25 x70 q113 met111 k112 = some t116 ∧ (∀ a u, M88 a = some u → M109 a = some u)) (fun q113 => q113) k ⟨met90, 0, rfl, h120, (fun _ _ h => h)⟩ ?_
                    rintro q113 M109 _ ⟨met111, k112, rfl, hl115, le110⟩
                    obtain _ | q113 := q113
                    · cases hl115
                    · rw [law10_AtomVars_l4] at hl115
                      refine g_seq ?_
                      refine g_seq ?_
                      refine g_region ?_
                      refine g_exec 4 [0, 3, 4, 5, 6, 8, 9, 11, 37, 38, 39, 61] [] [] (fun _ => ⟨[(0, .v (.slice A2 l1.length c3)), (3, .v (.bool r7)), (4, .v (.slice A20 r16.length c21)), (5, .v (.slice A29 r25.length c30)), (6, .v (.int .i64 i36)), (8, .v (.int .i64 x70)), (9, .v (.bool met111)), (11, .v (.int .i64 k112)), (37, .v (.slice (some ⟨f52, 0, none⟩) ([x46.1, x46.2] : List Int).length 2)), (38, .v (.int .i64 (([x46.1, x46.2] : List Int).length : Int))), (39, .v (.int .i64 x59)), (61, .v (.bool (decide (k112 < (r25.length : Int)))))], [], [], 0⟩) (fun _ => by kernel_rfl) fun _ => ?_
                      refine g_end (by kernel_rfl) ?_
                      refine n_then ?_
                      refine g_cond (decide (k112 < (r25.length : Int))) (by kernel_rfl) (fun hc122 => ?_) (fun hc122 => ?_)
                      · replace hl115 := if_t (of_decide_eq_true hc122) hl115
                        refine g_skip ?_
                        refine n_then ?_
                        refine g_seq ?_
                        refine g_block ?_
                        refine g_region ?_
                        refine g_exec 2 [0, 3, 4, 5, 6, 8, 9, 11, 37, 38, 39, 65] [] [] (fun _ => ⟨[(0, .v (.slice A2 l1.length c3)), (3, .v (.bool r7)), (4, .v (.slice A20 r16.length c21)), (5, .v (.slice A29 r25.length c30)), (6, .v (.int .i64 i36)), (8, .v (.int .i64 x70)), (9, .v (.bool met111)), (11, .v (.int .i64 k112)), (37, .v (.slice (some ⟨f52, 0, none⟩) ([x46.1, x46.2] : List Int).length 2)), (38, .v (.int .i64 (([x46.1, x46.2] : List Int).length : Int))), (39, .v (.int .i64 x59)), (65, .v (.bool met111))], [], [], 0⟩) (fun _ => by kernel_rfl) fun _ => ?_
                        refine g_bool 65 (met111) (by kernel_rfl) (fun hc124 => ?_) (fun hc124 => ?_)
                        · replace hl115 := if_t hc124 hl115
                          refine g_exec 9 [0, 3, 4, 5, 6, 8, 9, 11, 37, 38, 39] [] [] (fun _ => ⟨[(0, .v (.slice A2 l1.length c3)), (3, .v (.bool r7)), (4, .v (.slice A20 r16.length c21)), (5, .v (.slice A29 r25.length c30)), (6, .v (.int .i64 i36)), (8, .v (.int .i64 x70)), (9, .v (.bool true)), (11, .v (.int .i64 k112)), (37, .v (.slice (some ⟨f52, 0, none⟩) ([x46.1, x46.2] : List Int).length 2)), (38, .v (.int .i64 (([x46.1, x46.2] : List Int).length : Int))), (39, .v (.int .i64 x59))], [], [], 0⟩) (fun _ => by kernel_rfl) fun _ => ?_
                          refine g_end (by kernel_rfl) ?_
                          refine n_block ?_
                          refine n_then ?_
                          refine g_region ?_
                          refine g_exec 3 [0, 3, 4, 5, 6, 8, 9, 11, 37, 38, 39] [] [] (fun _ => ⟨[(0, .v (.slice A2 l1.length c3)), (3, .v (.bool r7)), (4, .v (.slice A20 r16.length c21)), (5, .v (.slice A29 r25.length c30)), (6, .v (.int .i64 i36)), (8, .v (.int .i64 x70)), (9, .v (.bool true)), (11, .v (.int .i64 (IntKind.i64.wrap (k112 + 1)))), (37, .v (.slice (some ⟨f52, 0, none⟩) ([x46.1, x46.2] : List Int).length 2)), (38, .v (.int .i64 (([x46.1, x46.2] : List Int).length : Int))), (39, .v (.int .i64 x59))], [], [], 0⟩) (fun _ => by kernel_rfl) fun _ => ?_
                          refine g_end (by kernel_rfl) ?_
                          refine n_then ?_
                          refine g_fin [0, 3, 4, 5, 6, 8, 9, 11, 37, 38, 39] [] [] ⟨[(0, .v (.slice A2 l1.length c3)), (3, .v (.bool r7)), (4, .v (.slice A20 r16.length c21)), (5, .v (.slice A29 r25.length c30)), (6, .v (.int .i64 i36)), (8, .v (.int .i64 x70)), (9, .v (.bool true)), (11, .v (.int .i64 (IntKind.i64.wrap (k112 + 1)))), (37, .v (.slice (some ⟨f52, 0, none⟩) ([x46.1, x46.2] : List Int).length 2)), (38, .v (.int .i64 (([x46.1, x46.2] : List Int).length : Int))), (39, .v (.int .i64 x59))], [], [], 0⟩ (by kernel_rfl) ?_
                          exact g_again q113 ⟨true, (IntKind.i64.wrap (k112 + 1)), rfl, hl115, le110⟩ (Nat.lt_succ_self _)
                        · replace hl115 := if_f (ne_t hc124) hl115
                          refine g_exec 2 [0, 3, 4, 5, 6, 8, 9, 11, 37, 38, 39, 65, 66, 67] [] [] (fun _ => ⟨[(0, .v (.slice A2 l1.length c3)), (3, .v (.bool r7)), (4, .v (.slice A20 r16.length c21)), (5, .v (.slice A29 r25.length c30)), (6, .v (.int .i64 i36)), (8, .v (.int .i64 x70)), (9, .v (.bool met111)), (11, .v (.int .i64 k112)), (37, .v (.slice (some ⟨f52, 0, none⟩) ([x46.1, x46.2] : List Int).length 2)), (38, .v (.int .i64 (([x46.1, x46.2] : List Int).length : Int))), (39, .v (.int .i64 x59)), (65, .v (.bool false)), (66, .v (.slice A29 r25.length c30)), (67, .v (.int .i64 k112))], [], [], 0⟩) (fun _ => by kernel_rfl) fun _ => ?_
                          obtain ⟨x128, h129, hl115⟩ := bind_t hl115
                          obtain ⟨b130, o131, _, hA132, rfl, hc133⟩ := SlF.at hA31 h129
                          refine g_yld (y_indexA (dst := some 68) (A := A29) (len := r25.length) (kk := .i64) (ii := k112) (sz := 1) (by kernel_rfl) hA132 (xs := r25) rfl h129) ?_
                          refine g_yld (y_load1 (dst := some 69) (ad := ⟨b130, o131 + (k112).toNat * 1, none⟩) (sz := 1) (by kernel_rfl) (v := .int .i64 x128) (le110 _ _ (le89 _ _ (le58 _ _ (le54 _ _ (le35 _ _ (hc133 0 _ rfl))))))) ?_
                          obtain ⟨r136, h137, hl115⟩ := bind_t hl115
                          refine g_call (dst := some 70) (g := 23) (args := [.int .i64 x128]) (by kernel_rfl) (by kernel_rfl) (fun v _ => v = .int .i64 r136) (by intro w hst; exact pointP_calls hst.sat x128 h137) ?_
                          rintro _ M138 le139 rfl
                          refine g_exec 4 [0, 3, 4, 5, 6, 8, 9, 11, 37, 38, 39] [] [] (fun _ => ⟨[(0, .v (.slice A2 l1.length c3)), (3, .v (.bool r7)), (4, .v (.slice A20 r16.length c21)), (5, .v (.slice A29 r25.length c30)), (6, .v (.int .i64 i36)), (8, .v (.int .i64 x70)), (9, .v (.bool (r136 == x70))), (11, .v (.int .i64 k112)), (37, .v (.slice (some ⟨f52, 0, none⟩) ([x46.1, x46.2] : List Int).length 2)), (38, .v (.int .i64 (([x46.1, x46.2] : List Int).length : Int))), (39, .v (.int .i64 x59))], [], [], 0⟩) (fun _ => by kernel_rfl) fun _ => ?_
                          refine g_end (by kernel_rfl) ?_
                          refine n_block ?_
                          refine n_then ?_
                          refine g_region ?_
                          refine g_exec 3 [0, 3, 4, 5, 6, 8, 9, 11, 37, 38, 39] [] [] (fun _ => ⟨[(0, .v (.slice A2 l1.length c3)), (3, .v (.bool r7)), (4, .v (.slice A20 r16.length c21)), (5, .v (.slice A29 r25.length c30)), (6, .v (.int .i64 i36)), (8, .v (.int .i64 x70)), (9, .v (.bool (r136 == x70))), (11, .v (.int .i64 (IntKind.i64.wrap (k112 + 1)))), (37, .v (.slice (some ⟨f52, 0, none⟩) ([x46.1, x46.2] : List Int).length 2)), (38, .v (.int .i64 (([x46.1, x46.2] : List Int).length : Int))), (39, .v (.int .i64 x59))], [], [], 0⟩) (fun _ => by kernel_rfl) fun _ => ?_
                          refine g_end (by kernel_rfl) ?_
                          refine n_then ?_
                          refine g_fin [0, 3, 4, 5, 6, 8, 9, 11, 37, 38, 39] [] [] ⟨[(0, .v (.slice A2 l1.length c3)), (3, .v (.bool r7)), (4, .v (.slice A20 r16.length c21)), (5, .v (.slice A29 r25.length c30)), (6, .v (.int .i64 i36)), (8, .v (.int .i64 x70)), (9, .v (.bool (r136 == x70))), (11, .v (.int .i64 (IntKind.i64.wrap (k112 + 1)))), (37, .v (.slice (some ⟨f52, 0, none⟩) ([x46.1, x46.2] : List Int).length 2)), (38, .v (.int .i64 (([x46.1, x46.2] : List Int).length : Int))), (39, .v (.int .i64 x59))], [], [], 0⟩ (by kernel_rfl) ?_
                          exact g_again q113 ⟨(r136 == x70), (IntKind.i64.wrap (k112 + 1)), rfl, hl115, (fun _ _ h => le139 _ _ (le110 _ _ h))⟩ (Nat.lt_succ_self _)
                      · replace hl115 := if_f (of_decide_eq_false hc122) hl115
                        refine g_exit ?_
                        refine n_then_exit ?_
                        refine n_then_exit ?_
                        refine n_block_exit ?_
                        refine g_fin [0, 3, 4, 5, 6, 9, 37, 38, 39] [] [] ⟨[(0, .v (.slice A2 l1.length c3)), (3, .v (.bool r7)), (4, .v (.slice A20 r16.length c21)), (5, .v (.slice A29 r25.length c30)), (6, .v (.int .i64 i36)), (9, .v (.bool met111)), (37, .v (.slice (some ⟨f52, 0, none⟩) ([x46.1, x46.2] : List Int).length 2)), (38, .v (.int .i64 (([x46.1, x46.2] : List Int).length : Int))), (39, .v (.int .i64 x59))], [], [], 0⟩ (by kernel_rfl) ?_
                        exact n_join ⟨met111, rfl, some_inj hl115, le110⟩
                  · rintro M117 _ ⟨met119, rfl, ht114, le118⟩
                    subst ht114
                    refine n_then ?_
                    refine g_seq ?_
                    refine g_region ?_
                    refine g_exec 2 [0, 3, 4, 5, 6, 37, 38, 39, 75] [] [] (fun _ => ⟨[(0, .v (.slice A2 l1.length c3)), (3, .v (.bool r7)), (4, .v (.slice A20 r16.length c21)), (5, .v (.slice A29 r25.length c30)), (6, .v (.int .i64 i36)), (37, .v (.slice (some ⟨f52, 0, none⟩) ([x46.1, x46.2] : List Int).length 2)), (38, .v (.int .i64 (([x46.1, x46.2] : List Int).length : Int))), (39, .v (.int .i64 x59)), (75, .v (.bool (!met119)))], [], [], 0⟩) (fun _ => by kernel_rfl) fun _ => ?_
                    refine g_end (by kernel_rfl) ?_
                    refine n_then ?_
                    refine g_cond (!met119) (by kernel_rfl) (fun hc143 => ?_) (fun hc143 => ?_)
                    · replace hl62 := if_f (ne_t (bnot_t hc143)) hl62
                      refine g_seq ?_
                      refine g_region ?_
                      refine g_exec 1 [2] [] [] (fun _ => ⟨[(2, .v (.bool false))], [], [], 0⟩) (fun _ => by kernel_rfl) fun _ => ?_
                      refine g_end (by kernel_rfl) ?_
                      refine n_then ?_
                      refine g_ret ?_
                      refine n_block_ret ?_
                      refine n_then_ret ?_
                      refine n_then_ret ?_
                      refine n_block_ret ?_
                      refine n_qj ?_
                      refine n_block_ret ?_
                      refine n_then_ret ?_
                      refine n_then_ret ?_
                      refine n_block_ret ?_
                      refine n_qj ?_
                      refine n_then_ret ?_
                      obtain rfl := some_inj hl62
                      replace hl39 := orOn_l hl39
                      obtain rfl := some_inj hl39
                      replace h := orOn_l h
                      obtain rfl := some_inj h
                      exact n_post (.bool false) (by kernel_rfl) rfl
                    · replace hl62 := if_t (bnot_f hc143) hl62
                      refine g_skip ?_
                      refine n_block ?_
                      refine n_then ?_
                      refine g_region ?_
                      refine g_exec 2 [0, 3, 4, 5, 6, 37, 38, 39] [] [] (fun _ => ⟨[(0, .v (.slice A2 l1.length c3)), (3, .v (.bool r7)), (4, .v (.slice A20 r16.length c21)), (5, .v (.slice A29 r25.length c30)), (6, .v (.int .i64 i36)), (37, .v (.slice (some ⟨f52, 0, none⟩) ([x46.1, x46.2] : List Int).length 2)), (38, .v (.int .i64 (([x46.1, x46.2] : List Int).length : Int))), (39, .v (.int .i64 (IntKind.i64.wrap (x59 + 1))))], [], [], 0⟩) (fun _ => by kernel_rfl) fun _ => ?_
                      refine g_end (by kernel_rfl) ?_
                      refine n_then ?_
                      refine g_fin [0, 3, 4, 5, 6, 37, 38, 39] [] [] ⟨[(0, .v (.slice A2 l1.length c3)), (3, .v (.bool r7)), (4, .v (.slice A20 r16.length c21)), (5, .v (.slice A29 r25.length c30)), (6, .v (.int .i64 i36)), (37, .v (.slice (some ⟨f52, 0, none⟩) ([x46.1, x46.2] : List Int).length 2)), (38, .v (.int .i64 (([x46.1, x46.2] : List Int).length : Int))), (39, .v (.int .i64 (IntKind.i64.wrap (x59 + 1))))], [], [], 0⟩ (by kernel_rfl) ?_
                      exact g_again q60 ⟨(IntKind.i64.wrap (x59 + 1)), rfl, hl62, (fun _ _ h => le118 _ _ (le89 _ _ (le58 _ _ h)))⟩ (Nat.lt_succ_self _)
              · replace hl62 := if_f (of_decide_eq_false hc68) hl62
                refine g_exit ?_
                refine n_then_exit ?_
                refine n_then_exit ?_
                refine n_block_exit ?_
                refine g_fin [0, 3, 4, 5, 6] [] [] ⟨[(0, .v (.slice A2 l1.length c3)), (3, .v (.bool r7)), (4, .v (.slice A20 r16.length c21)), (5, .v (.slice A29 r25.length c30)), (6, .v (.int .i64 i36))], [], [], 0⟩ (by kernel_rfl) ?_
                exact n_join ⟨rfl, some_inj hl62, le58⟩
          · rintro M64 _ ⟨rfl, ht61, le65⟩
            subst ht61
            replace hl39 := orOn_r hl39
            refine n_block ?_
            refine n_then ?_
            refine g_region ?_
            refine g_exec 3 [0, 3, 4, 5, 6] [] [] (fun _ => ⟨[(0, .v (.slice A2 l1.length c3)), (3, .v (.bool r7)), (4, .v (.slice A20 r16.length c21)), (5, .v (.slice A29 r25.length c30)), (6, .v (.int .i64 (IntKind.i64.wrap (i36 + 1))))], [], [], 0⟩) (fun _ => by kernel_rfl) fun _ => ?_
            refine g_end (by kernel_rfl) ?_
            refine n_then ?_
            refine g_fin [0, 3, 4, 5, 6] [] [] ⟨[(0, .v (.slice A2 l1.length c3)), (3, .v (.bool r7)), (4, .v (.slice A20 r16.length c21)), (5, .v (.slice A29 r25.length c30)), (6, .v (.int .i64 (IntKind.i64.wrap (i36 + 1))))], [], [], 0⟩ (by kernel_rfl) ?_
            exact g_again q37 ⟨(IntKind.i64.wrap (i36 + 1)), rfl, hl39, (fun _ _ h => le65 _ _ (le54 _ _ (le35 _ _ h)))⟩ (Nat.lt_succ_self _)
        · replace hl39 := if_f (of_decide_eq_false hc45) hl39
          refine g_exit ?_
          refine n_then_exit ?_
          refine n_then_exit ?_
          refine n_block_exit ?_
          refine g_fin [0, 3, 4, 5] [] [] ⟨[(0, .v (.slice A2 l1.length c3)), (3, .v (.bool r7)), (4, .v (.slice A20 r16.length c21)), (5, .v (.slice A29 r25.length c30))], [], [], 0⟩ (by kernel_rfl) ?_
          exact n_join ⟨rfl, some_inj hl39, le35⟩
    · rintro M41 _ ⟨rfl, ht38, le42⟩
      subst ht38
      replace h := orOn_r h
      refine n_then ?_
      refine g_seq ?_
      refine g_seq ?_
      refine g_region ?_
      refine g_exec 1 [0, 3, 4, 5, 12] [] [] (fun _ => ⟨[(0, .v (.slice A2 l1.length c3)), (3, .v (.bool r7)), (4, .v (.slice A20 r16.length c21)), (5, .v (.slice A29 r25.length c30)), (12, .v (.int .i64 0))], [], [], 0⟩) (fun _ => by kernel_rfl) fun _ => ?_
      refine g_end (by kernel_rfl) ?_
      refine n_then ?_
      refine g_fin [0, 3, 4, 5, 12] [] [] ⟨[(0, .v (.slice A2 l1.length c3)), (3, .v (.bool r7)), (4, .v (.slice A20 r16.length c21)), (5, .v (.slice A29 r25.length c30)), (12, .v (.int .i64 0))], [], [], 0⟩ (by kernel_rfl) ?_
      obtain ⟨t154, h157, h⟩ := bind_t h
      refine g_blockJ (fun M155 s => s = ⟨[(0, .v (.slice A2 l1.length c3)), (3, .v (.bool r7)), (4, .v (.slice A20 r16.length c21)), (5, .v (.slice A29 r25.length c30))], [], [], 0⟩ ∧ .inr () = t154 ∧ (∀ a u, M41 a = some u → M155 a = some u)) ?_ ?_
      · refine g_while (ι := Nat) (fun q151 M148 s => ∃ (k150 : Int), s = ⟨[(0, .v (.slice A2 l1.length c3)), (3, .v (.bool r7)), (4, .v (.slice A20 r16.length c21)), (5, .v (.slice A29 r25.length c30)), (12, .v (.int .i64 k150))], [], [], 0⟩ ∧ law10_AtomVars_l5 r16 q151 k150 = some t154 ∧ (∀ a u, M41 a = some u → M148 a = some u)) (fun q151 => q151) k ⟨0, rfl, h157, (fun _ _ h => h)⟩ ?_
        rintro q151 M148 _ ⟨k150, rfl, hl153, le149⟩
        obtain _ | q151 := q151
        · cases hl153
        · rw [law10_AtomVars_l5] at hl153
          refine g_seq ?_
          refine g_seq ?_
          refine g_region ?_
          refine g_exec 4 [0, 3, 4, 5, 12, 80] [] [] (fun _ => ⟨[(0, .v (.slice A2 l1.length c3)), (3, .v (.bool r7)), (4, .v (.slice A20 r16.length c21)), (5, .v (.slice A29 r25.length c30)), (12, .v (.int .i64 k150)), (80, .v (.bool (decide (k150 < (r16.length : Int)))))], [], [], 0⟩) (fun _ => by kernel_rfl) fun _ => ?_
          refine g_end (by kernel_rfl) ?_
          refine n_then ?_
          refine g_cond (decide (k150 < (r16.length : Int))) (by kernel_rfl) (fun hc159 => ?_) (fun hc159 => ?_)
          · replace hl153 := if_t (of_decide_eq_true hc159) hl153
            refine g_skip ?_
            refine n_then ?_
            refine g_seq ?_
            refine g_block ?_
            refine g_seq ?_
            refine d_begin (by kernel_rfl) [] [] 21 (by kernel_rfl) ?_
            refine dx_exec (fuel := 19) [] [0, 1] [0, 3, 4, 5, 12, 83, 84] [] [] [true, true, false, false, false, false, false, false, false, false, false, false, false, false, false, false, false, false, false, false, false] ⟨[(0, .v (.slice A2 l1.length c3)), (3, .v (.bool r7)), (4, .v (.slice A20 r16.length c21)), (5, .v (.slice A29 r25.length c30)), (12, .v (.int .i64 k150)), (83, .v (.slice A20 r16.length c21)), (84, .v (.int .i64 k150))], [], [], 0⟩ (by kernel_rfl) (fun _ _ h => h) (by kernel_rfl) (by kernel_rfl) ?_ rfl
            obtain ⟨x160, h161, hl153⟩ := bind_t hl153
            obtain ⟨b162, o163, _, hA164, rfl, hc165⟩ := SlF.at hA22 h161
            refine dx_yld (fuel := 18) (i := 2) [] [true, true, true, false, false, false, false, false, false, false, false, false, false, false, false, false, false, false, false, false, false] (by kernel_rfl) (fun _ _ h => h) (by kernel_rfl) (y_indexA (dst := some 85) (A := A20) (len := r16.length) (kk := .i64) (ii := k150) (sz := 1) (by kernel_rfl) hA164 (xs := r16) rfl h161) (by kernel_rfl) (by kernel_rfl) ?_ rfl
            refine dx_yld (fuel := 17) (i := 3) [] [true, true, true, true, false, false, false, false, false, false, false, false, false, false, false, false, false, false, false, false, false] (by kernel_rfl) (fun _ _ h => h) (by kernel_rfl) (y_load1 (dst := some 86) (ad := ⟨b162, o163 + (k150).toNat * 1, none⟩) (sz := 1) (by kernel_rfl) (v := .int .i64 x160) (le149 _ _ (le42 _ _ (le28 _ _ (hc165 0 _ rfl))))) (by kernel_rfl) (by kernel_rfl) ?_ rfl
            refine dx_exec (fuel := 15) [] [4, 5] [0, 3, 4, 5, 12, 88] [] [] [true, true, true, true, true, true, false, false, false, false, false, false, false, false, false, false, false, false, false, false, false] ⟨[(0, .v (.slice A2 l1.length c3)), (3, .v (.bool r7)), (4, .v (.slice A20 r16.length c21)), (5, .v (.slice A29 r25.length c30)), (12, .v (.int .i64 k150)), (88, .v (.bool (decide (x160 < 0))))], [], [], 0⟩ (by kernel_rfl) (fun _ _ h => h) (by kernel_rfl) (by kernel_rfl) ?_ rfl
            refine g_bool 88 (decide (x160 < 0)) (by kernel_rfl) (fun hc166 => ?_) (fun hc166 => ?_)
            · replace hl153 := if_t (of_decide_eq_true hc166) hl153
              refine dx_exec (fuel := 0) [] [6, 7, 8, 9, 10, 11, 12, 13, 14, 15, 16, 17, 18, 19, 20] [0, 3, 4, 5, 12, 103] [] [] [true, true, true, true, true, true, true, true, true, true, true, true, true, true, true, true, true, true, true, true, true] ⟨[(0, .v (.slice A2 l1.length c3)), (3, .v (.bool r7)), (4, .v (.slice A20 r16.length c21)), (5, .v (.slice A29 r25.length c30)), (12, .v (.int .i64 k150)), (103, .v (.bool true))], [], [], 0⟩ (by kernel_rfl) (fun _ _ h => h) (by kernel_rfl) (by kernel_rfl) ?_ rfl
              refine d_end (by kernel_rfl) ?_
              refine n_then ?_
              refine g_cond true (by kernel_rfl) (fun hc => ?_) (fun hc => ?_)
              · refine g_seq ?_
                refine g_region ?_
                refine g_exec 1 [2] [] [] (fun _ => ⟨[(2, .v (.bool false))], [], [], 0⟩) (fun _ => by kernel_rfl) fun _ => ?_
                refine g_end (by kernel_rfl) ?_
                refine n_then ?_
                refine g_ret ?_
                refine n_block_ret ?_
                refine n_then_ret ?_
                refine n_then_ret ?_
                refine n_block_ret ?_
                refine n_qj ?_
                refine n_then_ret ?_
                obtain rfl := some_inj hl153
                replace h := orOn_l h
                obtain rfl := some_inj h
                exact n_post (.bool false) (by kernel_rfl) rfl
              · cases hc
            · replace hl153 := if_f (of_decide_eq_false hc166) hl153
              refine dx_exec (fuel := 12) [] [6, 7, 8] [0, 3, 4, 5, 12, 88, 91] [] [] [true, true, true, true, true, true, true, true, true, false, false, false, false, false, false, false, false, false, false, false, false] ⟨[(0, .v (.slice A2 l1.length c3)), (3, .v (.bool r7)), (4, .v (.slice A20 r16.length c21)), (5, .v (.slice A29 r25.length c30)), (12, .v (.int .i64 k150)), (88, .v (.bool false)), (91, .v (.bool (decide (k150 > 0))))], [], [], 0⟩ (by kernel_rfl) (fun _ _ h => h) (by kernel_rfl) (by kernel_rfl) ?_ rfl
              refine g_bool 91 (decide (k150 > 0)) (by kernel_rfl) (fun hc168 => ?_) (fun hc168 => ?_)
              · replace hl153 := if_t (of_decide_eq_true hc168) hl153
                refine dx_exec (fuel := 7) [] [9, 10, 11, 14, 15] [0, 3, 4, 5, 12, 88, 91, 92, 94, 97, 98] [] [] [true, true, true, true, true, true, true, true, true, true, true, true, false, false, true, true, false, false, false, false, false] ⟨[(0, .v (.slice A2 l1.length c3)), (3, .v (.bool r7)), (4, .v (.slice A20 r16.length c21)), (5, .v (.slice A29 r25.length c30)), (12, .v (.int .i64 k150)), (88, .v (.bool false)), (91, .v (.bool true)), (92, .v (.slice A20 r16.length c21)), (94, .v (.int .i64 (IntKind.i64.wrap (k150 - 1)))), (97, .v (.slice A20 r16.length c21)), (98, .v (.int .i64 k150))], [], [], 0⟩ (by kernel_rfl) (fun _ _ h => h) (by kernel_rfl) (by kernel_rfl) ?_ rfl
                obtain ⟨x169, h170, hl153⟩ := bind_t hl153
                obtain ⟨b171, o172, _, hA173, rfl, hc174⟩ := SlF.at hA22 h170
                refine dx_yld (fuel := 6) (i := 12) [] [true, true, true, true, true, true, true, true, true, true, true, true, true, false, true, true, false, false, false, false, false] (by kernel_rfl) (fun _ _ h => h) (by kernel_rfl) (y_indexA (dst := some 95) (A := A20) (len := r16.length) (kk := .i64) (ii := (IntKind.i64.wrap (k150 - 1))) (sz := 1) (by kernel_rfl) hA173 (xs := r16) rfl h170) (by kernel_rfl) (by kernel_rfl) ?_ rfl
                refine dx_yld (fuel := 5) (i := 13) [] [true, true, true, true, true, true, true, true, true, true, true, true, true, true, true, true, false, false, false, false, false] (by kernel_rfl) (fun _ _ h => h) (by kernel_rfl) (y_load1 (dst := some 96) (ad := ⟨b171, o172 + (IntKind.i64.wrap (k150 - 1)).toNat * 1, none⟩) (sz := 1) (by kernel_rfl) (v := .int .i64 x169) (le149 _ _ (le42 _ _ (le28 _ _ (hc174 0 _ rfl))))) (by kernel_rfl) (by kernel_rfl) ?_ rfl
                refine dx_yld (fuel := 4) (i := 16) [] [true, true, true, true, true, true, true, true, true, true, true, true, true, true, true, true, true, false, false, false, false] (by kernel_rfl) (fun _ _ h => h) (by kernel_rfl) (y_indexA (dst := some 99) (A := A20) (len := r16.length) (kk := .i64) (ii := k150) (sz := 1) (by kernel_rfl) hA164 (xs := r16) rfl h161) (by kernel_rfl) (by kernel_rfl) ?_ rfl
                refine dx_yld (fuel := 3) (i := 17) [] [true, true, true, true, true, true, true, true, true, true, true, true, true, true, true, true, true, true, false, false, false] (by kernel_rfl) (fun _ _ h => h) (by kernel_rfl) (y_load1 (dst := some 100) (ad := ⟨b162, o163 + (k150).toNat * 1, none⟩) (sz := 1) (by kernel_rfl) (v := .int .i64 x160) (le149 _ _ (le42 _ _ (le28 _ _ (hc165 0 _ rfl))))) (by kernel_rfl) (by kernel_rfl) ?_ rfl
                refine dx_exec (fuel := 0) [] [18, 19, 20] [0, 3, 4, 5, 12, 103] [] [] [true, true, true, true, true, true, true, true, true, true, true, true, true, true, true, true, true, true, true, true, true] ⟨[(0, .v (.slice A2 l1.length c3)), (3, .v (.bool r7)), (4, .v (.slice A20 r16.length c21)), (5, .v (.slice A29 r25.length c30)), (12, .v (.int .i64 k150)), (103, .v (.bool (decide (x169 ≥ x160))))], [], [], 0⟩ (by kernel_rfl) (fun _ _ h => h) (by kernel_rfl) (by kernel_rfl) ?_ rfl
                refine d_end (by kernel_rfl) ?_
                refine n_then ?_
                refine g_cond (decide (x169 ≥ x160)) (by kernel_rfl) (fun hc175 => ?_) (fun hc175 => ?_)
                · replace hl153 := if_t (of_decide_eq_true hc175) hl153
                  refine g_seq ?_
                  refine g_region ?_
                  refine g_exec 1 [2] [] [] (fun _ => ⟨[(2, .v (.bool false))], [], [], 0⟩) (fun _ => by kernel_rfl) fun _ => ?_
                  refine g_end (by kernel_rfl) ?_
                  refine n_then ?_
                  refine g_ret ?_
                  refine n_block_ret ?_
                  refine n_then_ret ?_
                  refine n_then_ret ?_
                  refine n_block_ret ?_
                  refine n_qj ?_
                  refine n_then_ret ?_
                  obtain rfl := some_inj hl153
                  replace h := orOn_l h
                  obtain rfl := some_inj h
                  exact n_post (.bool false) (by kernel_rfl) rfl
                · replace hl153 := if_f (of_decide_eq_false hc175) hl153
                  refine g_skip ?_
                  refine n_block ?_
                  refine n_then ?_
                  refine g_region ?_
                  refine g_exec 3 [0, 3, 4, 5, 12] [] [] (fun _ => ⟨[(0, .v (.slice A2 l1.length c3)), (3, .v (.bool r7)), (4, .v (.slice A20 r16.length c21)), (5, .v (.slice A29 r25.length c30)), (12, .v (.int .i64 (IntKind.i64.wrap (k150 + 1))))], [], [], 0⟩) (fun _ => by kernel_rfl) fun _ => ?_
                  refine g_end (by kernel_rfl) ?_
                  refine n_then ?_
                  refine g_fin [0, 3, 4, 5, 12] [] [] ⟨[(0, .v (.slice A2 l1.length c3)), (3, .v (.bool r7)), (4, .v (.slice A20 r16.length c21)), (5, .v (.slice A29 r25.length c30)), (12, .v (.int .i64 (IntKind.i64.wrap (k150 + 1))))], [], [], 0⟩ (by kernel_rfl) ?_
                  exact g_again q151 ⟨(IntKind.i64.wrap (k150 + 1)), rfl, hl153, le149⟩ (Nat.lt_succ_self _)
              · replace hl153 := if_f (of_decide_eq_false hc168) hl153
                refine dx_exec (fuel := 0) [] [9, 10, 11, 12, 13, 14, 15, 16, 17, 18, 19, 20] [0, 3, 4, 5, 12, 103] [] [] [true, true, true, true, true, true, true, true, true, true, true, true, true, true, true, true, true, true, true, true, true] ⟨[(0, .v (.slice A2 l1.length c3)), (3, .v (.bool r7)), (4, .v (.slice A20 r16.length c21)), (5, .v (.slice A29 r25.length c30)), (12, .v (.int .i64 k150)), (103, .v (.bool false))], [], [], 0⟩ (by kernel_rfl) (fun _ _ h => h) (by kernel_rfl) (by kernel_rfl) ?_ rfl
                refine d_end (by kernel_rfl) ?_
                refine n_then ?_
                refine g_cond false (by kernel_rfl) (fun hc => ?_) (fun hc => ?_)
                · cases hc
                · refine g_skip ?_
                  refine n_block ?_
                  refine n_then ?_
                  refine g_region ?_
                  refine g_exec 3 [0, 3, 4, 5, 12] [] [] (fun _ => ⟨[(0, .v (.slice A2 l1.length c3)), (3, .v (.bool r7)), (4, .v (.slice A20 r16.length c21)), (5, .v (.slice A29 r25.length c30)), (12, .v (.int .i64 (IntKind.i64.wrap (k150 + 1))))], [], [], 0⟩) (fun _ => by kernel_rfl) fun _ => ?_
                  refine g_end (by kernel_rfl) ?_
                  refine n_then ?_
                  refine g_fin [0, 3, 4, 5, 12] [] [] ⟨[(0, .v (.slice A2 l1.length c3)), (3, .v (.bool r7)), (4, .v (.slice A20 r16.length c21)), (5, .v (.slice A29 r25.length c30)), (12, .v (.int .i64 (IntKind.i64.wrap (k150 + 1))))], [], [], 0⟩ (by kernel_rfl) ?_
                  exact g_again q151 ⟨(IntKind.i64.wrap (k150 + 1)), rfl, hl153, le149⟩ (Nat.lt_succ_self _)
          · replace hl153 := if_f (of_decide_eq_false hc159) hl153
            refine g_exit ?_
            refine n_then_exit ?_
            refine n_then_exit ?_
            refine n_block_exit ?_
            refine g_fin [0, 3, 4, 5] [] [] ⟨[(0, .v (.slice A2 l1.length c3)), (3, .v (.bool r7)), (4, .v (.slice A20 r16.length c21)), (5, .v (.slice A29 r25.length c30))], [], [], 0⟩ (by kernel_rfl) ?_
            exact n_join ⟨rfl, some_inj hl153, le149⟩
      · rintro M155 _ ⟨rfl, ht152, le156⟩
        subst ht152
        replace h := orOn_r h
        refine n_then ?_
        refine g_seq ?_
        refine g_seq ?_
        refine g_region ?_
        refine g_exec 1 [0, 3, 4, 5, 13] [] [] (fun _ => ⟨[(0, .v (.slice A2 l1.length c3)), (3, .v (.bool r7)), (4, .v (.slice A20 r16.length c21)), (5, .v (.slice A29 r25.length c30)), (13, .v (.int .i64 0))], [], [], 0⟩) (fun _ => by kernel_rfl) fun _ => ?_
        refine g_end (by kernel_rfl) ?_
        refine n_then ?_
        refine g_fin [0, 3, 4, 5, 13] [] [] ⟨[(0, .v (.slice A2 l1.length c3)), (3, .v (.bool r7)), (4, .v (.slice A20 r16.length c21)), (5, .v (.slice A29 r25.length c30)), (13, .v (.int .i64 0))], [], [], 0⟩ (by kernel_rfl) ?_
        obtain ⟨t186, h189, h⟩ := bind_t h
        refine g_blockJ (fun M187 s => s = ⟨[(0, .v (.slice A2 l1.length c3)), (3, .v (.bool r7)), (4, .v (.slice A20 r16.length c21)), (5, .v (.slice A29 r25.length c30))], [], [], 0⟩ ∧ .inr () = t186 ∧ (∀ a u, M155 a = some u → M187 a = some u)) ?_ ?_
        · refine g_while (ι := Nat) (fun q183 M180 s => ∃ (k182 : Int), s = ⟨[(0, .v (.slice A2 l1.length c3)), (3, .v (.bool r7)), (4, .v (.slice A20 r16.length c21)), (5, .v (.slice A29 r25.length c30)), (13, .v (.int .i64 k182))], [], [], 0⟩ ∧ law10_AtomVars_l6 r25 q183 k182 = some t186 ∧ (∀ a u, M155 a = some u → M180 a = some u)) (fun q183 => q183) k ⟨0, rfl, h189, (fun _ _ h => h)⟩ ?_
          rintro q183 M180 _ ⟨k182, rfl, hl185, le181⟩
          obtain _ | q183 := q183
          · cases hl185
          · rw [law10_AtomVars_l6] at hl185
            refine g_seq ?_
            refine g_seq ?_
            refine g_region ?_
            refine g_exec 4 [0, 3, 4, 5, 13, 107] [] [] (fun _ => ⟨[(0, .v (.slice A2 l1.length c3)), (3, .v (.bool r7)), (4, .v (.slice A20 r16.length c21)), (5, .v (.slice A29 r25.length c30)), (13, .v (.int .i64 k182)), (107, .v (.bool (decide (k182 < (r25.length : Int)))))], [], [], 0⟩) (fun _ => by kernel_rfl) fun _ => ?_
            refine g_end (by kernel_rfl) ?_
            refine n_then ?_
            refine g_cond (decide (k182 < (r25.length : Int))) (by kernel_rfl) (fun hc191 => ?_) (fun hc191 => ?_)
            · replace hl185 := if_t (of_decide_eq_true hc191) hl185
              refine g_skip ?_
              refine n_then ?_
              refine g_seq ?_
              refine g_block ?_
              refine g_seq ?_
              refine d_begin (by kernel_rfl) [] [] 21 (by kernel_rfl) ?_
              refine dx_exec (fuel := 19) [] [0, 1] [0, 3, 4, 5, 13, 110, 111] [] [] [true, true, false, false, false, false, false, false, false, false, false, false, false, false, false, false, false, false, false, false, false] ⟨[(0, .v (.slice A2 l1.length c3)), (3, .v (.bool r7)), (4, .v (.slice A20 r16.length c21)), (5, .v (.slice A29 r25.length c30)), (13, .v (.int .i64 k182)), (110, .v (.slice A29 r25.length c30)), (111, .v (.int .i64 k182))], [], [], 0⟩ (by kernel_rfl) (fun _ _ h => h) (by kernel_rfl) (by kernel_rfl) ?_ rfl
              obtain ⟨x192, h193, hl185⟩ := bind_t hl185
              obtain ⟨b194, o195, _, hA196, rfl, hc197⟩ := SlF.at hA31 h193
              refine dx_yld (fuel := 18) (i := 2) [] [true, true, true, false, false, false, false, false, false, false, false, false, false, false, false, false, false, false, false, false, false] (by kernel_rfl) (fun _ _ h => h) (by kernel_rfl) (y_indexA (dst := some 112) (A := A29) (len := r25.length) (kk := .i64) (ii := k182) (sz := 1) (by kernel_rfl) hA196 (xs := r25) rfl h193) (by kernel_rfl) (by kernel_rfl) ?_ rfl
              refine dx_yld (fuel := 17) (i := 3) [] [true, true, true, true, false, false, false, false, false, false, false, false, false, false, false, false, false, false, false, false, false] (by kernel_rfl) (fun _ _ h => h) (by kernel_rfl) (y_load1 (dst := some 113) (ad := ⟨b194, o195 + (k182).toNat * 1, none⟩) (sz := 1) (by kernel_rfl) (v := .int .i64 x192) (le181 _ _ (le156 _ _ (le42 _ _ (hc197 0 _ rfl))))) (by kernel_rfl) (by kernel_rfl) ?_ rfl
              refine dx_exec (fuel := 15) [] [4, 5] [0, 3, 4, 5, 13, 115] [] [] [true, true, true, true, true, true, false, false, false, false, false, false, false, false, false, false, false, false, false, false, false] ⟨[(0, .v (.slice A2 l1.length c3)), (3, .v (.bool r7)), (4, .v (.slice A20 r16.length c21)), (5, .v (.slice A29 r25.length c30)), (13, .v (.int .i64 k182)), (115, .v (.bool (decide (x192 < 0))))], [], [], 0⟩ (by kernel_rfl) (fun _ _ h => h) (by kernel_rfl) (by kernel_rfl) ?_ rfl
              refine g_bool 115 (decide (x192 < 0)) (by kernel_rfl) (fun hc198 => ?_) (fun hc198 => ?_)
              · replace hl185 := if_t (of_decide_eq_true hc198) hl185
                refine dx_exec (fuel := 0) [] [6, 7, 8, 9, 10, 11, 12, 13, 14, 15, 16, 17, 18, 19, 20] [0, 3, 4, 5, 13, 130] [] [] [true, true, true, true, true, true, true, true, true, true, true, true, true, true, true, true, true, true, true, true, true] ⟨[(0, .v (.slice A2 l1.length c3)), (3, .v (.bool r7)), (4, .v (.slice A20 r16.length c21)), (5, .v (.slice A29 r25.length c30)), (13, .v (.int .i64 k182)), (130, .v (.bool true))], [], [], 0⟩ (by kernel_rfl) (fun _ _ h => h) (by kernel_rfl) (by kernel_rfl) ?_ rfl
                refine d_end (by kernel_rfl) ?_
                refine n_then ?_
                refine g_cond true (by kernel_rfl) (fun hc => ?_) (fun hc => ?_)
                · refine g_seq ?_
                  refine g_region ?_
                  refine g_exec 1 [2] [] [] (fun _ => ⟨[(2, .v (.bool false))], [], [], 0⟩) (fun _ => by kernel_rfl) fun _ => ?_
                  refine g_end (by kernel_rfl) ?_
                  refine n_then ?_
                  refine g_ret ?_
                  refine n_block_ret ?_
                  refine n_then_ret ?_
                  refine n_then_ret ?_
                  refine n_block_ret ?_
                  refine n_qj ?_
                  refine n_then_ret ?_
                  obtain rfl := some_inj hl185
                  replace h := orOn_l h
                  obtain rfl := some_inj h
                  exact n_post (.bool false) (by kernel_rfl) rfl
                · cases hc
              · replace hl185 := if_f (of_decide_eq_false hc198) hl185
                refine dx_exec (fuel := 12) [] [6, 7, 8] [0, 3, 4, 5, 13, 115, 118] [] [] [true, true, true, true, true, true, true, true, true, false, false, false, false, false, false, false, false, false, false, false, false] ⟨[(0, .v (.slice A2 l1.length c3)), (3, .v (.bool r7)), (4, .v (.slice A20 r16.length c21)), (5, .v (.slice A29 r25.length c30)), (13, .v (.int .i64 k182)), (115, .v (.bool false)), (118, .v (.bool (decide (k182 > 0))))], [], [], 0⟩ (by kernel_rfl) (fun _ _ h => h) (by kernel_rfl) (by kernel_rfl) ?_ rfl
                refine g_bool 118 (decide (k182 > 0)) (by kernel_rfl) (fun hc200 => ?_) (fun hc200 => ?_)
                · replace hl185 := if_t (of_decide_eq_true hc200) hl185
                  refine dx_exec (fuel := 7) [] [9, 10, 11, 14, 15] [0, 3, 4, 5, 13, 115, 118, 119, 121, 124, 125] [] [] [true, true, true, true, true, true, true, true, true, true, true, true, false, false, true, true, false, false, false, false, false] ⟨[(0, .v (.slice A2 l1.length c3)), (3, .v (.bool r7)), (4, .v (.slice A20 r16.length c21)), (5, .v (.slice A29 r25.length c30)), (13, .v (.int .i64 k182)), (115, .v (.bool false)), (118, .v (.bool true)), (119, .v (.slice A29 r25.length c30)), (121, .v (.int .i64 (IntKind.i64.wrap (k182 - 1)))), (124, .v (.slice A29 r25.length c30)), (125, .v (.int .i64 k182))], [], [], 0⟩ (by kernel_rfl) (fun _ _ h => h) (by kernel_rfl) (by kernel_rfl) ?_ rfl
                  obtain ⟨x201, h202, hl185⟩ := bind_t hl185
                  obtain ⟨b203, o204, _, hA205, rfl, hc206⟩ := SlF.at hA31 h202
                  refine dx_yld (fuel := 6) (i := 12) [] [true, true, true, true, true, true, true, true, true, true, true, true, true, false, true, true, false, false, false, false, false] (by kernel_rfl) (fun _ _ h => h) (by kernel_rfl) (y_indexA (dst := some 122) (A := A29) (len := r25.length) (kk := .i64) (ii := (IntKind.i64.wrap (k182 - 1))) (sz := 1) (by kernel_rfl) hA205 (xs := r25) rfl h202) (by kernel_rfl) (by kernel_rfl) ?_ rfl
                  refine dx_yld (fuel := 5) (i := 13) [] [true, true, true, true, true, true, true, true, true, true, true, true, true, true, true, true, false, false, false, false, false] (by kernel_rfl) (fun _ _ h => h) (by kernel_rfl) (y_load1 (dst := some 123) (ad := ⟨b203, o204 + (IntKind.i64.wrap (k182 - 1)).toNat * 1, none⟩) (sz := 1) (by kernel_rfl) (v := .int .i64 x201) (le181 _ _ (le156 _ _ (le42 _ _ (hc206 0 _ rfl))))) (by kernel_rfl) (by kernel_rfl) ?_ rfl
                  refine dx_yld (fuel := 4) (i := 16) [] [true, true, true, true, true, true, true, true, true, true, true, true, true, true, true, true, true, false, false, false, false] (by kernel_rfl) (fun _ _ h => h) (by kernel_rfl) (y_indexA (dst := some 126) (A := A29) (len := r25.length) (kk := .i64) (ii := k182) (sz := 1) (by kernel_rfl) hA196 (xs := r25) rfl h193) (by kernel_rfl) (by kernel_rfl) ?_ rfl
                  refine dx_yld (fuel := 3) (i := 17) [] [true, true, true, true, true, true, true, true, true, true, true, true, true, true, true, true, true, true, false, false, false] (by kernel_rfl) (fun _ _ h => h) (by kernel_rfl) (y_load1 (dst := some 127) (ad := ⟨b194, o195 + (k182).toNat * 1, none⟩) (sz := 1) (by kernel_rfl) (v := .int .i64 x192) (le181 _ _ (le156 _ _ (le42 _ _ (hc197 0 _ rfl))))) (by kernel_rfl) (by kernel_rfl) ?_ rfl
                  refine dx_exec (fuel := 0) [] [18, 19, 20] [0, 3, 4, 5, 13, 130] [] [] [true, true, true, true, true, true, true, true, true, true, true, true, true, true, true, true, true, true, true, true, true] ⟨[(0, .v (.slice A2 l1.length c3)), (3, .v (.bool r7)), (4, .v (.slice A20 r16.length c21)), (5, .v (.slice A29 r25.length c30)), (13, .v (.int .i64 k182)), (130, .v (.bool (decide (x201 ≥ x192))))], [], [], 0⟩ (by kernel_rfl) (fun _ _ h => h) (by kernel_rfl) (by kernel_rfl) ?_ rfl
                  refine d_end (by kernel_rfl) ?_
                  refine n_then ?_
                  refine g_cond (decide (x201 ≥ x192)) (by kernel_rfl) (fun hc207 => ?_) (fun hc207 => ?_)
                  · replace hl185 := if_t (of_decide_eq_true hc207) hl185
                    refine g_seq ?_
                    refine g_region ?_
                    refine g_exec 1 [2] [] [] (fun _ => ⟨[(2, .v (.bool false))], [], [], 0⟩) (fun _ => by kernel_rfl) fun _ => ?_
                    refine g_end (by kernel_rfl) ?_
                    refine n_then ?_
                    refine g_ret ?_
                    refine n_block_ret ?_
                    refine n_then_ret ?_
                    refine n_then_ret ?_
                    refine n_block_ret ?_
                    refine n_qj ?_
                    refine n_then_ret ?_
                    obtain rfl := some_inj hl185
                    replace h := orOn_l h
                    obtain rfl := some_inj h
                    exact n_post (.bool false) (by kernel_rfl) rfl
                  · replace hl185 := if_f (of_decide_eq_false hc207) hl185
                    refine g_skip ?_
                    refine n_block ?_
                    refine n_then ?_
                    refine g_region ?_
                    refine g_exec 3 [0, 3, 4, 5, 13] [] [] (fun _ => ⟨[(0, .v (.slice A2 l1.length c3)), (3, .v (.bool r7)), (4, .v (.slice A20 r16.length c21)), (5, .v (.slice A29 r25.length c30)), (13, .v (.int .i64 (IntKind.i64.wrap (k182 + 1))))], [], [], 0⟩) (fun _ => by kernel_rfl) fun _ => ?_
                    refine g_end (by kernel_rfl) ?_
                    refine n_then ?_
                    refine g_fin [0, 3, 4, 5, 13] [] [] ⟨[(0, .v (.slice A2 l1.length c3)), (3, .v (.bool r7)), (4, .v (.slice A20 r16.length c21)), (5, .v (.slice A29 r25.length c30)), (13, .v (.int .i64 (IntKind.i64.wrap (k182 + 1))))], [], [], 0⟩ (by kernel_rfl) ?_
                    exact g_again q183 ⟨(IntKind.i64.wrap (k182 + 1)), rfl, hl185, le181⟩ (Nat.lt_succ_self _)
                · replace hl185 := if_f (of_decide_eq_false hc200) hl185
                  refine dx_exec (fuel := 0) [] [9, 10, 11, 12, 13, 14, 15, 16, 17, 18, 19, 20] [0, 3, 4, 5, 13, 130] [] [] [true, true, true, true, true, true, true, true, true, true, true, true, true, true, true, true, true, true, true, true, true] ⟨[(0, .v (.slice A2 l1.length c3)), (3, .v (.bool r7)), (4, .v (.slice A20 r16.length c21)), (5, .v (.slice A29 r25.length c30)), (13, .v (.int .i64 k182)), (130, .v (.bool false))], [], [], 0⟩ (by kernel_rfl) (fun _ _ h => h) (by kernel_rfl) (by kernel_rfl) ?_ rfl
                  refine d_end (by kernel_rfl) ?_
                  refine n_then ?_
                  refine g_cond false (by kernel_rfl) (fun hc => ?_) (fun hc => ?_)
                  · cases hc
                  · refine g_skip ?_
                    refine n_block ?_
                    refine n_then ?_
                    refine g_region ?_
                    refine g_exec 3 [0, 3, 4, 5, 13] [] [] (fun _ => ⟨[(0, .v (.slice A2 l1.length c3)), (3, .v (.bool r7)), (4, .v (.slice A20 r16.length c21)), (5, .v (.slice A29 r25.length c30)), (13, .v (.int .i64 (IntKind.i64.wrap (k182 + 1))))], [], [], 0⟩) (fun _ => by kernel_rfl) fun _ => ?_
                    refine g_end (by kernel_rfl) ?_
                    refine n_then ?_
                    refine g_fin [0, 3, 4, 5, 13] [] [] ⟨[(0, .v (.slice A2 l1.length c3)), (3, .v (.bool r7)), (4, .v (.slice A20 r16.length c21)), (5, .v (.slice A29 r25.length c30)), (13, .v (.int .i64 (IntKind.i64.wrap (k182 + 1))))], [], [], 0⟩ (by kernel_rfl) ?_
                    exact g_again q183 ⟨(IntKind.i64.wrap (k182 + 1)), rfl, hl185, le181⟩ (Nat.lt_succ_self _)
            · replace hl185 := if_f (of_decide_eq_false hc191) hl185
              refine g_exit ?_
              refine n_then_exit ?_
              refine n_then_exit ?_
              refine n_block_exit ?_
              refine g_fin [0, 3, 4, 5] [] [] ⟨[(0, .v (.slice A2 l1.length c3)), (3, .v (.bool r7)), (4, .v (.slice A20 r16.length c21)), (5, .v (.slice A29 r25.length c30))], [], [], 0⟩ (by kernel_rfl) ?_
              exact n_join ⟨rfl, some_inj hl185, le181⟩
        · rintro M187 _ ⟨rfl, ht184, le188⟩
          subst ht184
          replace h := orOn_r h
          refine n_then ?_
          refine g_seq ?_
          refine g_region ?_
          refine g_exec 2 [0, 4, 5, 132] [] [] (fun _ => ⟨[(0, .v (.slice A2 l1.length c3)), (4, .v (.slice A20 r16.length c21)), (5, .v (.slice A29 r25.length c30)), (132, .v (.bool r7))], [], [], 0⟩) (fun _ => by kernel_rfl) fun _ => ?_
          refine g_bool 132 (r7) (by kernel_rfl) (fun hc212 => ?_) (fun hc212 => ?_)
          · replace h := if_t hc212 h
            refine g_exec 11 [2] [] [] (fun _ => ⟨[(2, .v (.bool (decide ((IntKind.i64.wrap ((r16.length : Int) + (r25.length : Int))) ≤ (IntKind.i64.wrap (2 * (l1.length : Int)))))))], [], [], 0⟩) (fun _ => by kernel_rfl) fun _ => ?_
            refine g_end (by kernel_rfl) ?_
            refine n_then ?_
            refine g_ret ?_
            obtain rfl := some_inj h
            exact n_post (.bool (decide ((IntKind.i64.wrap ((r16.length : Int) + (r25.length : Int))) ≤ (IntKind.i64.wrap (2 * (l1.length : Int)))))) (by kernel_rfl) rfl
          · replace h := if_f (ne_t hc212) h
            refine g_exec 11 [2] [] [] (fun _ => ⟨[(2, .v (.bool false))], [], [], 0⟩) (fun _ => by kernel_rfl) fun _ => ?_
            refine g_end (by kernel_rfl) ?_
            refine n_then ?_
            refine g_ret ?_
            obtain rfl := some_inj h
            exact n_post (.bool false) (by kernel_rfl) rfl
end Go.Ch
