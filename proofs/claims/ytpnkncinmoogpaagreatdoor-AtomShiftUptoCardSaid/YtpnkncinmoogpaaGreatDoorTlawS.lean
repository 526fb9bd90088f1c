import Derived.Test.YtpnkncinmoogpaaGreatDoorTAdapt
set_option linter.unusedVariables false
namespace Go.Ch
open Go Go.Eng Go.Proofs
def law10_AtomShift_l1 (l1 : List (Int × Int)) : Nat → (List (Int × Int)) → Int → Option ((List (Int × Int)))
  | 0, _, _ => none
  | q + 1, ys59, i65 => (if i65 < (l1.length : Int) then ((idx l1 i65)).bind fun x82 => (if x82.1 < 1099511627776 then (if x82.2 < 1099511627776 then ((apd 16 ys59 [x82])).bind fun ys100 => law10_AtomShift_l1 l1 q ys100 (IntKind.i64.wrap (i65 + 1)) else law10_AtomShift_l1 l1 q ys59 (IntKind.i64.wrap (i65 + 1))) else law10_AtomShift_l1 l1 q ys59 (IntKind.i64.wrap (i65 + 1))) else some ys59)
def law10_AtomShift_l2 (by5 : Int) (ys72 : List (Int × Int)) (r120 : (List (Int × Int))) : Nat → Int → Option ((Bool) ⊕ (Unit))
  | 0, _ => none
  | q + 1, i131 => (if i131 < (r120.length : Int) then (if i131 < (ys72.length : Int) then ((idx ys72 i131)).bind fun x143 => ((isPointP x143.1)).bind fun r149 => (if r149 = true then ((idx r120 i131)).bind fun x154 => (if x154.1 = x143.1 then ((isPointP x143.1)).bind fun r162 => (if r162 = true then law10_AtomShift_l2 by5 ys72 r120 q (IntKind.i64.wrap (i131 + 1)) else (if x154.1 = (IntKind.i64.wrap (x143.1 + (IntKind.i64.wrap by5))) then law10_AtomShift_l2 by5 ys72 r120 q (IntKind.i64.wrap (i131 + 1)) else some (.inl false))) else some (.inl false)) else ((isPointP x143.1)).bind fun r171 => (if r171 = true then law10_AtomShift_l2 by5 ys72 r120 q (IntKind.i64.wrap (i131 + 1)) else ((idx r120 i131)).bind fun x176 => (if x176.1 = (IntKind.i64.wrap (x143.1 + (IntKind.i64.wrap by5))) then law10_AtomShift_l2 by5 ys72 r120 q (IntKind.i64.wrap (i131 + 1)) else some (.inl false)))) else some (.inr ())) else some (.inr ()))
def law10_AtomShift (k : Nat) (l1 : List (Int × Int)) (by5 : Int) : Option (Bool) := ((exP)).bind fun r8 => (if r8 = true then (law10_AtomShift_l1 l1 k ([] : List (Int × Int)) 0).bind (fun ys72 => ((shiftP ys72 (IntKind.i64.wrap by5))).bind fun r120 => (law10_AtomShift_l2 by5 ys72 r120 k 0).bind (orOn some (fun _ => (if r8 = true then ((shiftP r120 (IntKind.i64.wrap (0 - (IntKind.i64.wrap by5))))).bind fun r190 => ((law10_same k r190 ys72)).bind fun r198 => (if r198 = true then ((normP r120)).bind fun r205 => ((normP ys72)).bind fun r213 => ((shiftP r213 (IntKind.i64.wrap by5))).bind fun r221 => ((law10_same k r205 r221)).bind fun r229 => some r229 else some false) else some false)))) else some false)
theorem law10_AtomShift_calls (k : Nat) {M : Mem} {w : World} (hM : Sat M w) (hT : TabW w) (l1 : List (Int × Int)) (A2 : Option Addr) (c3 : Nat) (hA4 : SlF (fl chP) 2 M A2 l1 c3) (by5 : Int) {r : Bool} (h : law10_AtomShift k l1 by5 = some r) : Ct Tryz.prog 7 [.slice A2 l1.length c3, .int .u16 by5] [] w M (fun v _ => v = .bool r) := by
  unfold law10_AtomShift at h
  refine enter (n := 120) Tryz.func7 rfl rfl _ (by kernel_rfl) hM ?_
  refine g_seq ?_
  refine g_region ?_
  refine g_exec 1 [0, 1] [] [] (fun _ => ⟨[(0, .v (.slice A2 l1.length c3)), (1, .v (.int .u16 by5))], [], [], 0⟩) (fun _ => by kernel_rfl) fun _ => ?_
  refine g_end (by kernel_rfl) ?_
  refine n_then ?_
  refine g_seq ?_
  refine g_region ?_
  obtain ⟨r8, h9, h⟩ := bind_t h
  refine g_call (dst := some 10) (g := 9) (args := []) (by kernel_rfl) (by kernel_rfl) (fun v _ => v = .bool r8) (by intro w hst; exact exP_calls hst.sat (hT.ext hst.ext0)  h9) ?_
  rintro _ M10 le11 rfl
  refine g_exec 1 [0, 1, 5] [] [] (fun _ => ⟨[(0, .v (.slice A2 l1.length c3)), (1, .v (.int .u16 by5)), (5, .v (.bool r8))], [], [], 0⟩) (fun _ => by kernel_rfl) fun _ => ?_
  refine g_end (by kernel_rfl) ?_
  refine n_then ?_
  refine g_seq ?_
  refine g_seq ?_
  refine g_region ?_
  refine g_exec 2 [0, 1, 5, 12] [] [] (fun _ => ⟨[(0, .v (.slice A2 l1.length c3)), (1, .v (.int .u16 by5)), (5, .v (.bool r8)), (12, .v (.bool (!r8)))], [], [], 0⟩) (fun _ => by kernel_rfl) fun _ => ?_
  refine g_end (by kernel_rfl) ?_
  refine n_then ?_
  refine g_cond (!r8) (by kernel_rfl) (fun hc14 => ?_) (fun hc14 => ?_)
  · replace h := if_f (ne_t (bnot_t hc14)) h
    refine g_seq ?_
    refine g_region ?_
    refine g_exec 1 [4] [] [] (fun _ => ⟨[(4, .v (.bool false))], [], [], 0⟩) (fun _ => by kernel_rfl) fun _ => ?_
    refine g_end (by kernel_rfl) ?_
    refine n_then ?_
    refine g_ret ?_
    refine n_then_ret ?_
    obtain rfl := some_inj h
    exact n_post (.bool false) (by kernel_rfl) rfl
  · replace h := if_t (bnot_f hc14) h
    refine g_skip ?_
    refine n_then ?_
    refine g_seq ?_
    refine g_region ?_
    refine g_exec 1 [0, 1, 5, 6] [] [] (fun _ => ⟨[(0, .v (.slice A2 l1.length c3)), (1, .v (.int .u16 by5)), (5, .v (.bool r8)), (6, .v (.slice none 0 0))], [], [], 0⟩) (fun _ => by kernel_rfl) fun _ => ?_
    refine g_end (by kernel_rfl) ?_
    refine n_then ?_
    refine g_seq ?_
    refine g_seq ?_
    refine g_region ?_
    refine g_exec 1 [0, 1, 5, 6, 7] [] [] (fun _ => ⟨[(0, .v (.slice A2 l1.length c3)), (1, .v (.int .u16 by5)), (5, .v (.bool r8)), (6, .v (.slice none 0 0)), (7, .v (.int .i64 0))], [], [], 0⟩) (fun _ => by kernel_rfl) fun _ => ?_
    refine g_end (by kernel_rfl) ?_
    refine n_then ?_
    refine g_fin [0, 1, 5, 6, 7] [] [] ⟨[(0, .v (.slice A2 l1.length c3)), (1, .v (.int .u16 by5)), (5, .v (.bool r8)), (6, .v (.slice none 0 0)), (7, .v (.int .i64 0))], [], [], 0⟩ (by kernel_rfl) ?_
    refine g_newrow 0 53 2 (by rfl) ?_
    obtain ⟨t69, h78, h⟩ := bind_t h
    refine g_blockJ (fun M70 s => ∃ (ys72 : List (Int × Int)) (v73 : Value) (n74 : Nat) (cs75 : List Value), s = ⟨[(1, .v (.int .u16 by5)), (5, .v (.bool r8)), (6, .v (v73))], [], [(0, ⟨v73, 53, 2, n74, cs75⟩)], 0⟩ ∧ Cells ((fl chP) M70) 2 ys72 cs75 ∧ n74 = ys72.length ∧ ys72 = t69 ∧ (∀ a u, M10 a = some u → M70 a = some u)) ?_ ?_
    · refine g_while (ι := Nat) (fun q66 M57 s => ∃ (ys59 : List (Int × Int)) (v60 : Value) (n61 : Nat) (cs62 : List Value) (i65 : Int), s = ⟨[(0, .v (.slice A2 l1.length c3)), (1, .v (.int .u16 by5)), (5, .v (.bool r8)), (6, .v (v60)), (7, .v (.int .i64 i65))], [], [(0, ⟨v60, 53, 2, n61, cs62⟩)], 0⟩ ∧ Cells ((fl chP) M57) 2 ys59 cs62 ∧ n61 = ys59.length ∧ law10_AtomShift_l1 l1 q66 ys59 i65 = some t69 ∧ (∀ a u, M10 a = some u → M57 a = some u)) (fun q66 => q66) k ⟨([] : List (Int × Int)), (.slice none 0 0), 0, [], 0, rfl, Cells.nil', rfl, h78, (fun _ _ h => h)⟩ ?_
      rintro q66 M57 _ ⟨ys59, v60, n61, cs62, i65, rfl, hcl63, hn64, hl68, le58⟩
      obtain _ | q66 := q66
      · cases hl68
      · rw [law10_AtomShift_l1] at hl68
        refine g_seq ?_
        refine g_seq ?_
        refine g_region ?_
        refine g_exec 4 [0, 1, 5, 6, 7, 16] [] [0] (fun _ => ⟨[(0, .v (.slice A2 l1.length c3)), (1, .v (.int .u16 by5)), (5, .v (.bool r8)), (6, .v (v60)), (7, .v (.int .i64 i65)), (16, .v (.bool (decide (i65 < (l1.length : Int)))))], [], [(0, ⟨v60, 53, 2, n61, cs62⟩)], 0⟩) (fun _ => by kernel_rfl) fun _ => ?_
        refine g_end (by kernel_rfl) ?_
        refine n_then ?_
        refine g_cond (decide (i65 < (l1.length : Int))) (by kernel_rfl) (fun hc80 => ?_) (fun hc80 => ?_)
        · replace hl68 := if_t (of_decide_eq_true hc80) hl68
          refine g_skip ?_
          refine n_then ?_
          refine g_seq ?_
          refine g_block ?_
          refine g_seq ?_
          refine g_region ?_
          refine g_exec 2 [0, 1, 5, 6, 7, 19, 20] [] [0] (fun _ => ⟨[(0, .v (.slice A2 l1.length c3)), (1, .v (.int .u16 by5)), (5, .v (.bool r8)), (6, .v (v60)), (7, .v (.int .i64 i65)), (19, .v (.slice A2 l1.length c3)), (20, .v (.int .i64 i65))], [], [(0, ⟨v60, 53, 2, n61, cs62⟩)], 0⟩) (fun _ => by kernel_rfl) fun _ => ?_
          obtain ⟨x82, h83, hl68⟩ := bind_t hl68
          obtain ⟨b84, o85, _, hA86, rfl, hc87⟩ := SlF.at hA4 h83
          refine g_yld (y_indexA (dst := some 21) (A := A2) (len := l1.length) (kk := .i64) (ii := i65) (sz := 2) (by kernel_rfl) hA86 (xs := l1) rfl h83) ?_
          refine g_exec 1 [0, 1, 5, 6, 7, 22] [] [0] (fun _ => ⟨[(0, .v (.slice A2 l1.length c3)), (1, .v (.int .u16 by5)), (5, .v (.bool r8)), (6, .v (v60)), (7, .v (.int .i64 i65)), (22, .v (.pointer (some ⟨b84, o85 + (i65).toNat * 2, none⟩)))], [], [(0, ⟨v60, 53, 2, n61, cs62⟩)], 0⟩) (fun _ => by kernel_rfl) fun _ => ?_
          refine g_yld (y_load1 (dst := some 23) (ad := ⟨b84, o85 + (i65).toNat * 2, none⟩) (sz := 1) (by kernel_rfl) (v := .int .i64 x82.1) (le58 _ _ (le11 _ _ (hc87 0 _ rfl)))) ?_
          refine g_exec 2 [0, 1, 5, 6, 7, 25] [] [0] (fun _ => ⟨[(0, .v (.slice A2 l1.length c3)), (1, .v (.int .u16 by5)), (5, .v (.bool r8)), (6, .v (v60)), (7, .v (.int .i64 i65)), (25, .v (.bool (decide (x82.1 < 1099511627776))))], [], [(0, ⟨v60, 53, 2, n61, cs62⟩)], 0⟩) (fun _ => by kernel_rfl) fun _ => ?_
          refine g_bool 25 (decide (x82.1 < 1099511627776)) (by kernel_rfl) (fun hc90 => ?_) (fun hc90 => ?_)
          · replace hl68 := if_t (of_decide_eq_true hc90) hl68
            refine g_exec 2 [0, 1, 5, 6, 7, 25, 26, 27] [] [0] (fun _ => ⟨[(0, .v (.slice A2 l1.length c3)), (1, .v (.int .u16 by5)), (5, .v (.bool r8)), (6, .v (v60)), (7, .v (.int .i64 i65)), (25, .v (.bool true)), (26, .v (.slice A2 l1.length c3)), (27, .v (.int .i64 i65))], [], [(0, ⟨v60, 53, 2, n61, cs62⟩)], 0⟩) (fun _ => by kernel_rfl) fun _ => ?_
            refine g_yld (y_indexA (dst := some 28) (A := A2) (len := l1.length) (kk := .i64) (ii := i65) (sz := 2) (by kernel_rfl) hA86 (xs := l1) rfl h83) ?_
            refine g_exec 1 [0, 1, 5, 6, 7, 25, 29] [] [0] (fun _ => ⟨[(0, .v (.slice A2 l1.length c3)), (1, .v (.int .u16 by5)), (5, .v (.bool r8)), (6, .v (v60)), (7, .v (.int .i64 i65)), (25, .v (.bool true)), (29, .v (.pointer (some ⟨b84, o85 + (i65).toNat * 2 + 1, none⟩)))], [], [(0, ⟨v60, 53, 2, n61, cs62⟩)], 0⟩) (fun _ => by kernel_rfl) fun _ => ?_
            refine g_yld (y_load1 (dst := some 30) (ad := ⟨b84, o85 + (i65).toNat * 2 + 1, none⟩) (sz := 1) (by kernel_rfl) (v := .int .i64 x82.2) (le58 _ _ (le11 _ _ (hc87 1 _ rfl)))) ?_
            refine g_exec 2 [0, 1, 5, 6, 7, 32] [] [0] (fun _ => ⟨[(0, .v (.slice A2 l1.length c3)), (1, .v (.int .u16 by5)), (5, .v (.bool r8)), (6, .v (v60)), (7, .v (.int .i64 i65)), (32, .v (.bool (decide (x82.2 < 1099511627776))))], [], [(0, ⟨v60, 53, 2, n61, cs62⟩)], 0⟩) (fun _ => by kernel_rfl) fun _ => ?_
            refine g_end (by kernel_rfl) ?_
            refine n_then ?_
            refine g_cond (decide (x82.2 < 1099511627776)) (by kernel_rfl) (fun hc94 => ?_) (fun hc94 => ?_)
            · replace hl68 := if_t (of_decide_eq_true hc94) hl68
              refine g_region ?_
              refine g_exec 3 [0, 1, 5, 6, 7, 33, 34, 35] [] [0] (fun _ => ⟨[(0, .v (.slice A2 l1.length c3)), (1, .v (.int .u16 by5)), (5, .v (.bool r8)), (6, .v (v60)), (7, .v (.int .i64 i65)), (33, .v (v60)), (34, .v (.slice A2 l1.length c3)), (35, .v (.int .i64 i65))], [], [(0, ⟨v60, 53, 2, n61, cs62⟩)], 0⟩) (fun _ => by kernel_rfl) fun _ => ?_
              refine g_yld (y_indexA (dst := some 36) (A := A2) (len := l1.length) (kk := .i64) (ii := i65) (sz := 2) (by kernel_rfl) hA86 (xs := l1) rfl h83) ?_
              refine g_yld (y_loads (dst := some 37) (b := b84) (o := o85 + (i65).toNat * 2) (sz := 2) (by kernel_rfl) (cs := [.int .i64 x82.1, .int .i64 x82.2]) rfl (fun j v hj => le58 _ _ (le11 _ _ (hc87 j v hj)))) ?_
              refine g_step (used := true) (fun f98 => ⟨[(38, .v (.slice (some ⟨f98, 0, none⟩) 1 1)), (37, .v (.agg #[.int .i64 x82.1, .int .i64 x82.2])), (36, .v (.pointer (some ⟨b84, o85 + (i65).toNat * 2, none⟩))), (0, .v (.slice A2 l1.length c3)), (1, .v (.int .u16 by5)), (5, .v (.bool r8)), (6, .v (v60)), (7, .v (.int .i64 i65)), (33, .v (v60)), (34, .v (.slice A2 l1.length c3)), (35, .v (.int .i64 i65))], [(0, .cells f98 [.int .i64 x82.1, .int .i64 x82.2] 53)], [(0, ⟨v60, 53, 2, n61, cs62⟩)], 1⟩) rfl (by kernel_rfl) (fun _ => by kernel_rfl) (fun f98 => ?_)
              obtain ⟨ys100, h106, hl68⟩ := bind_t hl68
              obtain ⟨hcl102, hn103, hb104, hb105⟩ := row_apd (rep := (fl chP) M57) (sz := 2) (d := [.int .i64 x82.1, .int .i64 x82.2]) h106 hcl63 hn64 (Cells.cons (rep := (fl chP) M57) (sz := 2) (x := x82) (c := [.int .i64 x82.1, .int .i64 x82.2]) (rfl) rfl (Cells.nil'))
              refine g_append (dst := some 39) 0 0 1 (u := v60) (row := ⟨v60, 53, 2, n61, cs62⟩) (b := f98) (cs := [.int .i64 x82.1, .int .i64 x82.2]) (bytes := 16) (by kernel_rfl) rfl rfl hb104 hb105 ?_
              intro v101
              refine g_exec 1 [0, 1, 5, 6, 7] [] [0] (fun _ => ⟨[(0, .v (.slice A2 l1.length c3)), (1, .v (.int .u16 by5)), (5, .v (.bool r8)), (6, .v (v101)), (7, .v (.int .i64 i65))], [], [(0, ⟨v101, 53, 2, n61 + 1, cs62 ++ [.int .i64 x82.1, .int .i64 x82.2]⟩)], 0⟩) (fun _ => by kernel_rfl) fun _ => ?_
              refine g_end (by kernel_rfl) ?_
              refine n_block ?_
              refine n_then ?_
              refine g_region ?_
              refine g_exec 3 [0, 1, 5, 6, 7] [] [0] (fun _ => ⟨[(0, .v (.slice A2 l1.length c3)), (1, .v (.int .u16 by5)), (5, .v (.bool r8)), (6, .v (v101)), (7, .v (.int .i64 (IntKind.i64.wrap (i65 + 1))))], [], [(0, ⟨v101, 53, 2, n61 + 1, cs62 ++ [.int .i64 x82.1, .int .i64 x82.2]⟩)], 0⟩) (fun _ => by kernel_rfl) fun _ => ?_
              refine g_end (by kernel_rfl) ?_
              refine n_then ?_
              refine g_fin [0, 1, 5, 6, 7] [] [0] ⟨[(0, .v (.slice A2 l1.length c3)), (1, .v (.int .u16 by5)), (5, .v (.bool r8)), (6, .v (v101)), (7, .v (.int .i64 (IntKind.i64.wrap (i65 + 1))))], [], [(0, ⟨v101, 53, 2, n61 + 1, cs62 ++ [.int .i64 x82.1, .int .i64 x82.2]⟩)], 0⟩ (by kernel_rfl) ?_
              exact g_again q66 ⟨ys100, v101, (n61 + 1), (cs62 ++ [.int .i64 x82.1, .int .i64 x82.2]), (IntKind.i64.wrap (i65 + 1)), rfl, hcl102, hn103, hl68, le58⟩ (Nat.lt_succ_self _)
            · replace hl68 := if_f (of_decide_eq_false hc94) hl68
              refine g_skip ?_
              refine n_block ?_
              refine n_then ?_
              refine g_region ?_
              refine g_exec 3 [0, 1, 5, 6, 7] [] [0] (fun _ => ⟨[(0, .v (.slice A2 l1.length c3)), (1, .v (.int .u16 by5)), (5, .v (.bool r8)), (6, .v (v60)), (7, .v (.int .i64 (IntKind.i64.wrap (i65 + 1))))], [], [(0, ⟨v60, 53, 2, n61, cs62⟩)], 0⟩) (fun _ => by kernel_rfl) fun _ => ?_
              refine g_end (by kernel_rfl) ?_
              refine n_then ?_
              refine g_fin [0, 1, 5, 6, 7] [] [0] ⟨[(0, .v (.slice A2 l1.length c3)), (1, .v (.int .u16 by5)), (5, .v (.bool r8)), (6, .v (v60)), (7, .v (.int .i64 (IntKind.i64.wrap (i65 + 1))))], [], [(0, ⟨v60, 53, 2, n61, cs62⟩)], 0⟩ (by kernel_rfl) ?_
              exact g_again q66 ⟨ys59, v60, n61, cs62, (IntKind.i64.wrap (i65 + 1)), rfl, hcl63, hn64, hl68, le58⟩ (Nat.lt_succ_self _)
          · replace hl68 := if_f (of_decide_eq_false hc90) hl68
            refine g_exec 7 [0, 1, 5, 6, 7, 32] [] [0] (fun _ => ⟨[(0, .v (.slice A2 l1.length c3)), (1, .v (.int .u16 by5)), (5, .v (.bool r8)), (6, .v (v60)), (7, .v (.int .i64 i65)), (32, .v (.bool false))], [], [(0, ⟨v60, 53, 2, n61, cs62⟩)], 0⟩) (fun _ => by kernel_rfl) fun _ => ?_
            refine g_end (by kernel_rfl) ?_
            refine n_then ?_
            refine g_cond false (by kernel_rfl) (fun hc => ?_) (fun hc => ?_)
            · cases hc
            · refine g_skip ?_
              refine n_block ?_
              refine n_then ?_
              refine g_region ?_
              refine g_exec 3 [0, 1, 5, 6, 7] [] [0] (fun _ => ⟨[(0, .v (.slice A2 l1.length c3)), (1, .v (.int .u16 by5)), (5, .v (.bool r8)), (6, .v (v60)), (7, .v (.int .i64 (IntKind.i64.wrap (i65 + 1))))], [], [(0, ⟨v60, 53, 2, n61, cs62⟩)], 0⟩) (fun _ => by kernel_rfl) fun _ => ?_
              refine g_end (by kernel_rfl) ?_
              refine n_then ?_
              refine g_fin [0, 1, 5, 6, 7] [] [0] ⟨[(0, .v (.slice A2 l1.length c3)), (1, .v (.int .u16 by5)), (5, .v (.bool r8)), (6, .v (v60)), (7, .v (.int .i64 (IntKind.i64.wrap (i65 + 1))))], [], [(0, ⟨v60, 53, 2, n61, cs62⟩)], 0⟩ (by kernel_rfl) ?_
              exact g_again q66 ⟨ys59, v60, n61, cs62, (IntKind.i64.wrap (i65 + 1)), rfl, hcl63, hn64, hl68, le58⟩ (Nat.lt_succ_self _)
        · replace hl68 := if_f (of_decide_eq_false hc80) hl68
          refine g_exit ?_
          refine n_then_exit ?_
          refine n_then_exit ?_
          refine n_block_exit ?_
          refine g_fin [1, 5, 6] [] [0] ⟨[(1, .v (.int .u16 by5)), (5, .v (.bool r8)), (6, .v (v60))], [], [(0, ⟨v60, 53, 2, n61, cs62⟩)], 0⟩ (by kernel_rfl) ?_
          exact n_join ⟨ys59, v60, n61, cs62, rfl, hcl63, hn64, some_inj hl68, le58⟩
    · rintro M70 _ ⟨ys72, v73, n74, cs75, rfl, hcl76, hn77, ht67, le71⟩
      subst ht67
      refine n_then ?_
      refine g_seq ?_
      refine g_region ?_
      refine g_exec 3 [1, 5, 6, 40, 42] [] [0] (fun _ => ⟨[(1, .v (.int .u16 by5)), (5, .v (.bool r8)), (6, .v (v73)), (40, .v (v73)), (42, .v (.int .i64 (IntKind.i64.wrap by5)))], [], [(0, ⟨v73, 53, 2, n74, cs75⟩)], 0⟩) (fun _ => by kernel_rfl) fun _ => ?_
      refine g_pubS 0 (by rfl) hcl76 hn77 ?_
      intro M113 A114 c115 le116 hv117 hA118
      subst hv117
      obtain ⟨r120, h121, h⟩ := bind_t h
      refine g_call (dst := some 43) (g := 19) (args := [.slice A114 ys72.length c115, .int .i64 (IntKind.i64.wrap by5)]) (by kernel_rfl) (by kernel_rfl) (fun v M' => ∃ (A1 : Option Addr) (c2 : Nat), v = .slice A1 r120.length c2 ∧ SlF (fl chP) 2 M' A1 r120 c2) (by intro w hst; exact shiftP_calls hst.sat ys72 A114 c115 hA118 (IntKind.i64.wrap by5) h121) ?_
      rintro _ M122 le123 ⟨A124, c125, rfl, hA126⟩
      refine g_exec 1 [1, 5, 6, 8] [] [] (fun _ => ⟨[(1, .v (.int .u16 by5)), (5, .v (.bool r8)), (6, .v (.slice A114 ys72.length c115)), (8, .v (.slice A124 r120.length c125))], [], [], 0⟩) (fun _ => by kernel_rfl) fun _ => ?_
      refine g_end (by kernel_rfl) ?_
      refine n_then ?_
      refine g_seq ?_
      refine g_seq ?_
      refine g_region ?_
      refine g_exec 1 [1, 5, 6, 8, 9] [] [] (fun _ => ⟨[(1, .v (.int .u16 by5)), (5, .v (.bool r8)), (6, .v (.slice A114 ys72.length c115)), (8, .v (.slice A124 r120.length c125)), (9, .v (.int .i64 0))], [], [], 0⟩) (fun _ => by kernel_rfl) fun _ => ?_
      refine g_end (by kernel_rfl) ?_
      refine n_then ?_
      refine g_fin [1, 5, 6, 8, 9] [] [] ⟨[(1, .v (.int .u16 by5)), (5, .v (.bool r8)), (6, .v (.slice A114 ys72.length c115)), (8, .v (.slice A124 r120.length c125)), (9, .v (.int .i64 0))], [], [], 0⟩ (by kernel_rfl) ?_
      obtain ⟨t135, h138, h⟩ := bind_t h
      refine g_blockJ (fun M136 s => s = ⟨[(1, .v (.int .u16 by5)), (5, .v (.bool r8)), (6, .v (.slice A114 ys72.length c115)), (8, .v (.slice A124 r120.length c125))], [], [], 0⟩ ∧ .inr () = t135 ∧ (∀ a u, M122 a = some u → M136 a = some u)) ?_ ?_
      · refine g_while (ι := Nat) (fun q132 M129 s => ∃ (i131 : Int), s = ⟨[(1, .v (.int .u16 by5)), (5, .v (.bool r8)), (6, .v (.slice A114 ys72.length c115)), (8, .v (.slice A124 r120.length c125)), (9, .v (.int .i64 i131))], [], [], 0⟩ ∧ law10_AtomShift_l2 by5 ys72 r120 q132 i131 = some t135 ∧ (∀ a u, M122 a = some u → M129 a = some u)) (fun q132 => q132) k ⟨0, rfl, h138, (fun _ _ h => h)⟩ ?_
        rintro q132 M129 _ ⟨i131, rfl, hl134, le130⟩
        obtain _ | q132 := q132
        · cases hl134
        · rw [law10_AtomShift_l2] at hl134
          refine g_seq ?_
          refine g_seq ?_
          refine g_region ?_
          refine g_exec 5 [1, 5, 6, 8, 9, 48] [] [] (fun _ => ⟨[(1, .v (.int .u16 by5)), (5, .v (.bool r8)), (6, .v (.slice A114 ys72.length c115)), (8, .v (.slice A124 r120.length c125)), (9, .v (.int .i64 i131)), (48, .v (.bool (decide (i131 < (r120.length : Int)))))], [], [], 0⟩) (fun _ => by kernel_rfl) fun _ => ?_
          refine g_bool 48 (decide (i131 < (r120.length : Int))) (by kernel_rfl) (fun hc140 => ?_) (fun hc140 => ?_)
          · replace hl134 := if_t (of_decide_eq_true hc140) hl134
            refine g_exec 5 [1, 5, 6, 8, 9, 53] [] [] (fun _ => ⟨[(1, .v (.int .u16 by5)), (5, .v (.bool r8)), (6, .v (.slice A114 ys72.length c115)), (8, .v (.slice A124 r120.length c125)), (9, .v (.int .i64 i131)), (53, .v (.bool (decide (i131 < (ys72.length : Int)))))], [], [], 0⟩) (fun _ => by kernel_rfl) fun _ => ?_
            refine g_end (by kernel_rfl) ?_
            refine n_then ?_
            refine g_cond (decide (i131 < (ys72.length : Int))) (by kernel_rfl) (fun hc142 => ?_) (fun hc142 => ?_)
            · replace hl134 := if_t (of_decide_eq_true hc142) hl134
              refine g_skip ?_
              refine n_then ?_
              refine g_seq ?_
              refine g_block ?_
              refine g_seq ?_
              refine d_begin (by kernel_rfl) [] [] 44 (by kernel_rfl) ?_
              refine dx_exec (fuel := 42) [] [0, 1] [1, 5, 6, 8, 9, 56, 57] [] [] [true, true, false, false, false, false, false, false, false, false, false, false, false, false, false, false, false, false, false, false, false, false, false, false, false, false, false, false, false, false, false, false, false, false, false, false, false, false, false, false, false, false, false, false] ⟨[(1, .v (.int .u16 by5)), (5, .v (.bool r8)), (6, .v (.slice A114 ys72.length c115)), (8, .v (.slice A124 r120.length c125)), (9, .v (.int .i64 i131)), (56, .v (.slice A114 ys72.length c115)), (57, .v (.int .i64 i131))], [], [], 0⟩ (by kernel_rfl) (fun _ _ h => h) (by kernel_rfl) (by kernel_rfl) ?_ rfl
              obtain ⟨x143, h144, hl134⟩ := bind_t hl134
              obtain ⟨b145, o146, _, hA147, rfl, hc148⟩ := SlF.at hA118 h144
              refine dx_yld (fuel := 41) (i := 2) [] [true, true, true, false, false, false, false, false, false, false, false, false, false, false, false, false, false, false, false, false, false, false, false, false, false, false, false, false, false, false, false, false, false, false, false, false, false, false, false, false, false, false, false, false] (by kernel_rfl) (fun _ _ h => h) (by kernel_rfl) (y_indexA (dst := some 58) (A := A114) (len := ys72.length) (kk := .i64) (ii := i131) (sz := 2) (by kernel_rfl) hA147 (xs := ys72) rfl h144) (by kernel_rfl) (by kernel_rfl) ?_ rfl
              refine dx_exec (fuel := 40) [] [3] [1, 5, 6, 8, 9, 59] [] [] [true, true, true, true, false, false, false, false, false, false, false, false, false, false, false, false, false, false, false, false, false, false, false, false, false, false, false, false, false, false, false, false, false, false, false, false, false, false, false, false, false, false, false, false] ⟨[(1, .v (.int .u16 by5)), (5, .v (.bool r8)), (6, .v (.slice A114 ys72.length c115)), (8, .v (.slice A124 r120.length c125)), (9, .v (.int .i64 i131)), (59, .v (.pointer (some ⟨b145, o146 + (i131).toNat * 2, none⟩)))], [], [], 0⟩ (by kernel_rfl) (fun _ _ h => h) (by kernel_rfl) (by kernel_rfl) ?_ rfl
              refine dx_yld (fuel := 39) (i := 4) [] [true, true, true, true, true, false, false, false, false, false, false, false, false, false, false, false, false, false, false, false, false, false, false, false, false, false, false, false, false, false, false, false, false, false, false, false, false, false, false, false, false, false, false, false] (by kernel_rfl) (fun _ _ h => h) (by kernel_rfl) (y_load1 (dst := some 60) (ad := ⟨b145, o146 + (i131).toNat * 2, none⟩) (sz := 1) (by kernel_rfl) (v := .int .i64 x143.1) (le130 _ _ (le123 _ _ (hc148 0 _ rfl)))) (by kernel_rfl) (by kernel_rfl) ?_ rfl
              obtain ⟨r149, h150, hl134⟩ := bind_t hl134
              refine dx_op (fuel := 38) (i := 5) [true, true, true, true, true, true, false, false, false, false, false, false, false, false, false, false, false, false, false, false, false, false, false, false, false, false, false, false, false, false, false, false, false, false, false, false, false, false, false, false, false, false, false, false] (by kernel_rfl) (by kernel_rfl) ?_ rfl
              refine o_call (dst := some 61) (g := 27) (args := [.int .i64 x143.1]) (by kernel_rfl) (by kernel_rfl) (fun v _ => v = .bool r149) (by intro w hst; exact isPointP_calls hst.sat x143.1 h150) ?_
              rintro _ M151 le152 rfl
              refine dx_know [] le152 (by kernel_rfl) ?_
              refine dx_exec (fuel := 37) [] [6] [1, 5, 6, 8, 9, 62] [] [] [true, true, true, true, true, true, true, false, false, false, false, false, false, false, false, false, false, false, false, false, false, false, false, false, false, false, false, false, false, false, false, false, false, false, false, false, false, false, false, false, false, false, false, false] ⟨[(1, .v (.int .u16 by5)), (5, .v (.bool r8)), (6, .v (.slice A114 ys72.length c115)), (8, .v (.slice A124 r120.length c125)), (9, .v (.int .i64 i131)), (62, .v (.bool r149))], [], [], 0⟩ (by kernel_rfl) le152 (by kernel_rfl) (by kernel_rfl) ?_ rfl
              refine g_bool 62 (r149) (by kernel_rfl) (fun hc153 => ?_) (fun hc153 => ?_)
              · replace hl134 := if_t hc153 hl134
                refine dx_exec (fuel := 33) [] [7, 8, 12, 13] [1, 5, 6, 8, 9, 62, 63, 64, 68, 69] [] [] [true, true, true, true, true, true, true, true, true, false, false, false, true, true, false, false, false, false, false, false, false, false, false, false, false, false, false, false, false, false, false, false, false, false, false, false, false, false, false, false, false, false, false, false] ⟨[(1, .v (.int .u16 by5)), (5, .v (.bool r8)), (6, .v (.slice A114 ys72.length c115)), (8, .v (.slice A124 r120.length c125)), (9, .v (.int .i64 i131)), (62, .v (.bool true)), (63, .v (.slice A124 r120.length c125)), (64, .v (.int .i64 i131)), (68, .v (.slice A114 ys72.length c115)), (69, .v (.int .i64 i131))], [], [], 0⟩ (by kernel_rfl) le152 (by kernel_rfl) (by kernel_rfl) ?_ rfl
                refine dx_bump [] le152 ?_
                obtain ⟨x154, h155, hl134⟩ := bind_t hl134
                obtain ⟨b156, o157, _, hA158, rfl, hc159⟩ := SlF.at hA126 h155
                refine dx_yld (fuel := 32) (i := 9) [] [true, true, true, true, true, true, true, true, true, true, false, false, true, true, false, false, false, false, false, false, false, false, false, false, false, false, false, false, false, false, false, false, false, false, false, false, false, false, false, false, false, false, false, false] (by kernel_rfl) (fun _ _ h => h) (by kernel_rfl) (y_indexA (dst := some 65) (A := A124) (len := r120.length) (kk := .i64) (ii := i131) (sz := 2) (by kernel_rfl) hA158 (xs := r120) rfl h155) (by kernel_rfl) (by kernel_rfl) ?_ rfl
                refine dx_exec (fuel := 31) [] [10] [1, 5, 6, 8, 9, 62, 66, 68, 69] [] [] [true, true, true, true, true, true, true, true, true, true, true, false, true, true, false, false, false, false, false, false, false, false, false, false, false, false, false, false, false, false, false, false, false, false, false, false, false, false, false, false, false, false, false, false] ⟨[(1, .v (.int .u16 by5)), (5, .v (.bool r8)), (6, .v (.slice A114 ys72.length c115)), (8, .v (.slice A124 r120.length c125)), (9, .v (.int .i64 i131)), (62, .v (.bool true)), (66, .v (.pointer (some ⟨b156, o157 + (i131).toNat * 2, none⟩))), (68, .v (.slice A114 ys72.length c115)), (69, .v (.int .i64 i131))], [], [], 0⟩ (by kernel_rfl) (fun _ _ h => h) (by kernel_rfl) (by kernel_rfl) ?_ rfl
                refine dx_yld (fuel := 30) (i := 11) [] [true, true, true, true, true, true, true, true, true, true, true, true, true, true, false, false, false, false, false, false, false, false, false, false, false, false, false, false, false, false, false, false, false, false, false, false, false, false, false, false, false, false, false, false] (by kernel_rfl) (fun _ _ h => h) (by kernel_rfl) (y_load1 (dst := some 67) (ad := ⟨b156, o157 + (i131).toNat * 2, none⟩) (sz := 1) (by kernel_rfl) (v := .int .i64 x154.1) (le152 _ _ (le130 _ _ (hc159 0 _ rfl)))) (by kernel_rfl) (by kernel_rfl) ?_ rfl
                refine dx_yld (fuel := 29) (i := 14) [] [true, true, true, true, true, true, true, true, true, true, true, true, true, true, true, false, false, false, false, false, false, false, false, false, false, false, false, false, false, false, false, false, false, false, false, false, false, false, false, false, false, false, false, false] (by kernel_rfl) (fun _ _ h => h) (by kernel_rfl) (y_indexA (dst := some 70) (A := A114) (len := ys72.length) (kk := .i64) (ii := i131) (sz := 2) (by kernel_rfl) hA147 (xs := ys72) rfl h144) (by kernel_rfl) (by kernel_rfl) ?_ rfl
                refine dx_exec (fuel := 28) [] [15] [1, 5, 6, 8, 9, 62, 67, 71] [] [] [true, true, true, true, true, true, true, true, true, true, true, true, true, true, true, true, false, false, false, false, false, false, false, false, false, false, false, false, false, false, false, false, false, false, false, false, false, false, false, false, false, false, false, false] ⟨[(1, .v (.int .u16 by5)), (5, .v (.bool r8)), (6, .v (.slice A114 ys72.length c115)), (8, .v (.slice A124 r120.length c125)), (9, .v (.int .i64 i131)), (62, .v (.bool true)), (67, .v (.int .i64 x154.1)), (71, .v (.pointer (some ⟨b145, o146 + (i131).toNat * 2, none⟩)))], [], [], 0⟩ (by kernel_rfl) (fun _ _ h => h) (by kernel_rfl) (by kernel_rfl) ?_ rfl
                refine dx_yld (fuel := 27) (i := 16) [] [true, true, true, true, true, true, true, true, true, true, true, true, true, true, true, true, true, false, false, false, false, false, false, false, false, false, false, false, false, false, false, false, false, false, false, false, false, false, false, false, false, false, false, false] (by kernel_rfl) (fun _ _ h => h) (by kernel_rfl) (y_load1 (dst := some 72) (ad := ⟨b145, o146 + (i131).toNat * 2, none⟩) (sz := 1) (by kernel_rfl) (v := .int .i64 x143.1) (le152 _ _ (le130 _ _ (le123 _ _ (hc148 0 _ rfl))))) (by kernel_rfl) (by kernel_rfl) ?_ rfl
                refine dx_exec (fuel := 24) [] [17, 18, 19] [1, 5, 6, 8, 9, 75] [] [] [true, true, true, true, true, true, true, true, true, true, true, true, true, true, true, true, true, true, true, true, false, false, false, false, false, false, false, false, false, false, false, false, false, false, false, false, false, false, false, false, false, false, false, false] ⟨[(1, .v (.int .u16 by5)), (5, .v (.bool r8)), (6, .v (.slice A114 ys72.length c115)), (8, .v (.slice A124 r120.length c125)), (9, .v (.int .i64 i131)), (75, .v (.bool (x154.1 != x143.1)))], [], [], 0⟩ (by kernel_rfl) (fun _ _ h => h) (by kernel_rfl) (by kernel_rfl) ?_ rfl
                refine g_bool 75 ((x154.1 != x143.1)) (by kernel_rfl) (fun hc160 => ?_) (fun hc160 => ?_)
                · replace hl134 := if_f (bne_t hc160) hl134
                  refine dx_exec (fuel := 0) [] [20, 21, 22, 23, 24, 25, 26, 27, 28, 29, 30, 31, 32, 33, 34, 35, 36, 37, 38, 39, 40, 41, 42, 43] [1, 5, 6, 8, 9, 99] [] [] [true, true, true, true, true, true, true, true, true, true, true, true, true, true, true, true, true, true, true, true, true, true, true, true, true, true, true, true, true, true, true, true, true, true, true, true, true, true, true, true, true, true, true, true] ⟨[(1, .v (.int .u16 by5)), (5, .v (.bool r8)), (6, .v (.slice A114 ys72.length c115)), (8, .v (.slice A124 r120.length c125)), (9, .v (.int .i64 i131)), (99, .v (.bool true))], [], [], 0⟩ (by kernel_rfl) (fun _ _ h => h) (by kernel_rfl) (by kernel_rfl) ?_ rfl
                  refine d_end (by kernel_rfl) ?_
                  refine n_then ?_
                  refine g_cond true (by kernel_rfl) (fun hc => ?_) (fun hc => ?_)
                  · refine g_seq ?_
                    refine g_region ?_
                    refine g_exec 1 [4] [] [] (fun _ => ⟨[(4, .v (.bool false))], [], [], 0⟩) (fun _ => by kernel_rfl) fun _ => ?_
                    refine g_end (by kernel_rfl) ?_
                    refine n_then ?_
                    refine g_ret ?_
                    refine n_block_ret ?_
                    refine n_then_ret ?_
                    refine n_then_ret ?_
                    refine n_block_ret ?_
                    refine n_qj ?_
                    refine n_then_ret ?_
                    obtain rfl := some_inj hl134
                    replace h := orOn_l h
                    obtain rfl := some_inj h
                    exact n_post (.bool false) (by kernel_rfl) rfl
                  · cases hc
                · replace hl134 := if_t (bne_f hc160) hl134
                  refine dx_exec (fuel := 22) [] [20, 21] [1, 5, 6, 8, 9, 75, 76, 77] [] [] [true, true, true, true, true, true, true, true, true, true, true, true, true, true, true, true, true, true, true, true, true, true, false, false, false, false, false, false, false, false, false, false, false, false, false, false, false, false, false, false, false, false, false, false] ⟨[(1, .v (.int .u16 by5)), (5, .v (.bool r8)), (6, .v (.slice A114 ys72.length c115)), (8, .v (.slice A124 r120.length c125)), (9, .v (.int .i64 i131)), (75, .v (.bool false)), (76, .v (.slice A114 ys72.length c115)), (77, .v (.int .i64 i131))], [], [], 0⟩ (by kernel_rfl) (fun _ _ h => h) (by kernel_rfl) (by kernel_rfl) ?_ rfl
                  refine dx_yld (fuel := 21) (i := 22) [] [true, true, true, true, true, true, true, true, true, true, true, true, true, true, true, true, true, true, true, true, true, true, true, false, false, false, false, false, false, false, false, false, false, false, false, false, false, false, false, false, false, false, false, false] (by kernel_rfl) (fun _ _ h => h) (by kernel_rfl) (y_indexA (dst := some 78) (A := A114) (len := ys72.length) (kk := .i64) (ii := i131) (sz := 2) (by kernel_rfl) hA147 (xs := ys72) rfl h144) (by kernel_rfl) (by kernel_rfl) ?_ rfl
                  refine dx_exec (fuel := 20) [] [23] [1, 5, 6, 8, 9, 75, 79] [] [] [true, true, true, true, true, true, true, true, true, true, true, true, true, true, true, true, true, true, true, true, true, true, true, true, false, false, false, false, false, false, false, false, false, false, false, false, false, false, false, false, false, false, false, false] ⟨[(1, .v (.int .u16 by5)), (5, .v (.bool r8)), (6, .v (.slice A114 ys72.length c115)), (8, .v (.slice A124 r120.length c125)), (9, .v (.int .i64 i131)), (75, .v (.bool false)), (79, .v (.pointer (some ⟨b145, o146 + (i131).toNat * 2, none⟩)))], [], [], 0⟩ (by kernel_rfl) (fun _ _ h => h) (by kernel_rfl) (by kernel_rfl) ?_ rfl
                  refine dx_yld (fuel := 19) (i := 24) [] [true, true, true, true, true, true, true, true, true, true, true, true, true, true, true, true, true, true, true, true, true, true, true, true, true, false, false, false, false, false, false, false, false, false, false, false, false, false, false, false, false, false, false, false] (by kernel_rfl) (fun _ _ h => h) (by kernel_rfl) (y_load1 (dst := some 80) (ad := ⟨b145, o146 + (i131).toNat * 2, none⟩) (sz := 1) (by kernel_rfl) (v := .int .i64 x143.1) (le152 _ _ (le130 _ _ (le123 _ _ (hc148 0 _ rfl))))) (by kernel_rfl) (by kernel_rfl) ?_ rfl
                  obtain ⟨r162, h163, hl134⟩ := bind_t hl134
                  refine dx_op (fuel := 18) (i := 25) [true, true, true, true, true, true, true, true, true, true, true, true, true, true, true, true, true, true, true, true, true, true, true, true, true, true, false, false, false, false, false, false, false, false, false, false, false, false, false, false, false, false, false, false] (by kernel_rfl) (by kernel_rfl) ?_ rfl
                  refine o_call (dst := some 81) (g := 27) (args := [.int .i64 x143.1]) (by kernel_rfl) (by kernel_rfl) (fun v _ => v = .bool r162) (by intro w hst; exact isPointP_calls hst.sat x143.1 h163) ?_
                  rintro _ M164 le165 rfl
                  refine dx_know [] le165 (by kernel_rfl) ?_
                  refine dx_exec (fuel := 16) [] [26, 27] [1, 5, 6, 8, 9, 75, 83] [] [] [true, true, true, true, true, true, true, true, true, true, true, true, true, true, true, true, true, true, true, true, true, true, true, true, true, true, true, true, false, false, false, false, false, false, false, false, false, false, false, false, false, false, false, false] ⟨[(1, .v (.int .u16 by5)), (5, .v (.bool r8)), (6, .v (.slice A114 ys72.length c115)), (8, .v (.slice A124 r120.length c125)), (9, .v (.int .i64 i131)), (75, .v (.bool false)), (83, .v (.bool (!r162)))], [], [], 0⟩ (by kernel_rfl) le165 (by kernel_rfl) (by kernel_rfl) ?_ rfl
                  refine g_bool 83 (!r162) (by kernel_rfl) (fun hc166 => ?_) (fun hc166 => ?_)
                  · replace hl134 := if_f (ne_t (bnot_t hc166)) hl134
                    refine dx_exec (fuel := 10) [] [28, 29, 33, 34, 38, 39] [1, 5, 6, 8, 9, 75, 83, 84, 85, 89, 90, 95] [] [] [true, true, true, true, true, true, true, true, true, true, true, true, true, true, true, true, true, true, true, true, true, true, true, true, true, true, true, true, true, true, false, false, false, true, true, false, false, false, true, true, false, false, false, false] ⟨[(1, .v (.int .u16 by5)), (5, .v (.bool r8)), (6, .v (.slice A114 ys72.length c115)), (8, .v (.slice A124 r120.length c125)), (9, .v (.int .i64 i131)), (75, .v (.bool false)), (83, .v (.bool true)), (84, .v (.slice A124 r120.length c125)), (85, .v (.int .i64 i131)), (89, .v (.slice A114 ys72.length c115)), (90, .v (.int .i64 i131)), (95, .v (.int .i64 (IntKind.i64.wrap by5)))], [], [], 0⟩ (by kernel_rfl) le165 (by kernel_rfl) (by kernel_rfl) ?_ rfl
                    refine dx_bump [] le165 ?_
                    refine dx_yld (fuel := 9) (i := 30) [] [true, true, true, true, true, true, true, true, true, true, true, true, true, true, true, true, true, true, true, true, true, true, true, true, true, true, true, true, true, true, true, false, false, true, true, false, false, false, true, true, false, false, false, false] (by kernel_rfl) (fun _ _ h => h) (by kernel_rfl) (y_indexA (dst := some 86) (A := A124) (len := r120.length) (kk := .i64) (ii := i131) (sz := 2) (by kernel_rfl) hA158 (xs := r120) rfl h155) (by kernel_rfl) (by kernel_rfl) ?_ rfl
                    refine dx_exec (fuel := 8) [] [31] [1, 5, 6, 8, 9, 75, 83, 87, 89, 90, 95] [] [] [true, true, true, true, true, true, true, true, true, true, true, true, true, true, true, true, true, true, true, true, true, true, true, true, true, true, true, true, true, true, true, true, false, true, true, false, false, false, true, true, false, false, false, false] ⟨[(1, .v (.int .u16 by5)), (5, .v (.bool r8)), (6, .v (.slice A114 ys72.length c115)), (8, .v (.slice A124 r120.length c125)), (9, .v (.int .i64 i131)), (75, .v (.bool false)), (83, .v (.bool true)), (87, .v (.pointer (some ⟨b156, o157 + (i131).toNat * 2, none⟩))), (89, .v (.slice A114 ys72.length c115)), (90, .v (.int .i64 i131)), (95, .v (.int .i64 (IntKind.i64.wrap by5)))], [], [], 0⟩ (by kernel_rfl) (fun _ _ h => h) (by kernel_rfl) (by kernel_rfl) ?_ rfl
                    refine dx_yld (fuel := 7) (i := 32) [] [true, true, true, true, true, true, true, true, true, true, true, true, true, true, true, true, true, true, true, true, true, true, true, true, true, true, true, true, true, true, true, true, true, true, true, false, false, false, true, true, false, false, false, false] (by kernel_rfl) (fun _ _ h => h) (by kernel_rfl) (y_load1 (dst := some 88) (ad := ⟨b156, o157 + (i131).toNat * 2, none⟩) (sz := 1) (by kernel_rfl) (v := .int .i64 x154.1) (le165 _ _ (le152 _ _ (le130 _ _ (hc159 0 _ rfl))))) (by kernel_rfl) (by kernel_rfl) ?_ rfl
                    refine dx_yld (fuel := 6) (i := 35) [] [true, true, true, true, true, true, true, true, true, true, true, true, true, true, true, true, true, true, true, true, true, true, true, true, true, true, true, true, true, true, true, true, true, true, true, true, false, false, true, true, false, false, false, false] (by kernel_rfl) (fun _ _ h => h) (by kernel_rfl) (y_indexA (dst := some 91) (A := A114) (len := ys72.length) (kk := .i64) (ii := i131) (sz := 2) (by kernel_rfl) hA147 (xs := ys72) rfl h144) (by kernel_rfl) (by kernel_rfl) ?_ rfl
                    refine dx_exec (fuel := 5) [] [36] [1, 5, 6, 8, 9, 75, 83, 88, 92, 95] [] [] [true, true, true, true, true, true, true, true, true, true, true, true, true, true, true, true, true, true, true, true, true, true, true, true, true, true, true, true, true, true, true, true, true, true, true, true, true, false, true, true, false, false, false, false] ⟨[(1, .v (.int .u16 by5)), (5, .v (.bool r8)), (6, .v (.slice A114 ys72.length c115)), (8, .v (.slice A124 r120.length c125)), (9, .v (.int .i64 i131)), (75, .v (.bool false)), (83, .v (.bool true)), (88, .v (.int .i64 x154.1)), (92, .v (.pointer (some ⟨b145, o146 + (i131).toNat * 2, none⟩))), (95, .v (.int .i64 (IntKind.i64.wrap by5)))], [], [], 0⟩ (by kernel_rfl) (fun _ _ h => h) (by kernel_rfl) (by kernel_rfl) ?_ rfl
                    refine dx_yld (fuel := 4) (i := 37) [] [true, true, true, true, true, true, true, true, true, true, true, true, true, true, true, true, true, true, true, true, true, true, true, true, true, true, true, true, true, true, true, true, true, true, true, true, true, true, true, true, false, false, false, false] (by kernel_rfl) (fun _ _ h => h) (by kernel_rfl) (y_load1 (dst := some 93) (ad := ⟨b145, o146 + (i131).toNat * 2, none⟩) (sz := 1) (by kernel_rfl) (v := .int .i64 x143.1) (le165 _ _ (le152 _ _ (le130 _ _ (le123 _ _ (hc148 0 _ rfl)))))) (by kernel_rfl) (by kernel_rfl) ?_ rfl
                    refine dx_exec (fuel := 0) [] [40, 41, 42, 43] [1, 5, 6, 8, 9, 99] [] [] [true, true, true, true, true, true, true, true, true, true, true, true, true, true, true, true, true, true, true, true, true, true, true, true, true, true, true, true, true, true, true, true, true, true, true, true, true, true, true, true, true, true, true, true] ⟨[(1, .v (.int .u16 by5)), (5, .v (.bool r8)), (6, .v (.slice A114 ys72.length c115)), (8, .v (.slice A124 r120.length c125)), (9, .v (.int .i64 i131)), (99, .v (.bool (x154.1 != (IntKind.i64.wrap (x143.1 + (IntKind.i64.wrap by5))))))], [], [], 0⟩ (by kernel_rfl) (fun _ _ h => h) (by kernel_rfl) (by kernel_rfl) ?_ rfl
                    refine d_end (by kernel_rfl) ?_
                    refine n_then ?_
                    refine g_cond ((x154.1 != (IntKind.i64.wrap (x143.1 + (IntKind.i64.wrap by5))))) (by kernel_rfl) (fun hc167 => ?_) (fun hc167 => ?_)
                    · replace hl134 := if_f (bne_t hc167) hl134
                      refine g_seq ?_
                      refine g_region ?_
                      refine g_exec 1 [4] [] [] (fun _ => ⟨[(4, .v (.bool false))], [], [], 0⟩) (fun _ => by kernel_rfl) fun _ => ?_
                      refine g_end (by kernel_rfl) ?_
                      refine n_then ?_
                      refine g_ret ?_
                      refine n_block_ret ?_
                      refine n_then_ret ?_
                      refine n_then_ret ?_
                      refine n_block_ret ?_
                      refine n_qj ?_
                      refine n_then_ret ?_
                      obtain rfl := some_inj hl134
                      replace h := orOn_l h
                      obtain rfl := some_inj h
                      exact n_post (.bool false) (by kernel_rfl) rfl
                    · replace hl134 := if_t (bne_f hc167) hl134
                      refine g_skip ?_
                      refine n_block ?_
                      refine n_then ?_
                      refine g_region ?_
                      refine g_exec 3 [1, 5, 6, 8, 9] [] [] (fun _ => ⟨[(1, .v (.int .u16 by5)), (5, .v (.bool r8)), (6, .v (.slice A114 ys72.length c115)), (8, .v (.slice A124 r120.length c125)), (9, .v (.int .i64 (IntKind.i64.wrap (i131 + 1))))], [], [], 0⟩) (fun _ => by kernel_rfl) fun _ => ?_
                      refine g_end (by kernel_rfl) ?_
                      refine n_then ?_
                      refine g_fin [1, 5, 6, 8, 9] [] [] ⟨[(1, .v (.int .u16 by5)), (5, .v (.bool r8)), (6, .v (.slice A114 ys72.length c115)), (8, .v (.slice A124 r120.length c125)), (9, .v (.int .i64 (IntKind.i64.wrap (i131 + 1))))], [], [], 0⟩ (by kernel_rfl) ?_
                      exact g_again q132 ⟨(IntKind.i64.wrap (i131 + 1)), rfl, hl134, (fun _ _ h => le165 _ _ (le152 _ _ (le130 _ _ h)))⟩ (Nat.lt_succ_self _)
                  · replace hl134 := if_t (bnot_f hc166) hl134
                    refine dx_exec (fuel := 0) [] [28, 29, 30, 31, 32, 33, 34, 35, 36, 37, 38, 39, 40, 41, 42, 43] [1, 5, 6, 8, 9, 99] [] [] [true, true, true, true, true, true, true, true, true, true, true, true, true, true, true, true, true, true, true, true, true, true, true, true, true, true, true, true, true, true, true, true, true, true, true, true, true, true, true, true, true, true, true, true] ⟨[(1, .v (.int .u16 by5)), (5, .v (.bool r8)), (6, .v (.slice A114 ys72.length c115)), (8, .v (.slice A124 r120.length c125)), (9, .v (.int .i64 i131)), (99, .v (.bool false))], [], [], 0⟩ (by kernel_rfl) le165 (by kernel_rfl) (by kernel_rfl) ?_ rfl
                    refine d_end (by kernel_rfl) ?_
                    refine n_then ?_
                    refine g_cond false (by kernel_rfl) (fun hc => ?_) (fun hc => ?_)
                    · cases hc
                    · refine g_skip ?_
                      refine n_block ?_
                      refine n_then ?_
                      refine g_region ?_
                      refine g_exec 3 [1, 5, 6, 8, 9] [] [] (fun _ => ⟨[(1, .v (.int .u16 by5)), (5, .v (.bool r8)), (6, .v (.slice A114 ys72.length c115)), (8, .v (.slice A124 r120.length c125)), (9, .v (.int .i64 (IntKind.i64.wrap (i131 + 1))))], [], [], 0⟩) (fun _ => by kernel_rfl) fun _ => ?_
                      refine g_end (by kernel_rfl) ?_
                      refine n_then ?_
                      refine g_fin [1, 5, 6, 8, 9] [] [] ⟨[(1, .v (.int .u16 by5)), (5, .v (.bool r8)), (6, .v (.slice A114 ys72.length c115)), (8, .v (.slice A124 r120.length c125)), (9, .v (.int .i64 (IntKind.i64.wrap (i131 + 1))))], [], [], 0⟩ (by kernel_rfl) ?_
                      exact g_again q132 ⟨(IntKind.i64.wrap (i131 + 1)), rfl, hl134, (fun _ _ h => le165 _ _ (le152 _ _ (le130 _ _ h)))⟩ (Nat.lt_succ_self _)
              · replace hl134 := if_f (ne_t hc153) hl134
                refine dx_exec (fuel := 22) [] [7, 8, 9, 10, 11, 12, 13, 14, 15, 16, 17, 18, 19, 20, 21] [1, 5, 6, 8, 9, 75, 76, 77] [] [] [true, true, true, true, true, true, true, true, true, true, true, true, true, true, true, true, true, true, true, true, true, true, false, false, false, false, false, false, false, false, false, false, false, false, false, false, false, false, false, false, false, false, false, false] ⟨[(1, .v (.int .u16 by5)), (5, .v (.bool r8)), (6, .v (.slice A114 ys72.length c115)), (8, .v (.slice A124 r120.length c125)), (9, .v (.int .i64 i131)), (75, .v (.bool false)), (76, .v (.slice A114 ys72.length c115)), (77, .v (.int .i64 i131))], [], [], 0⟩ (by kernel_rfl) le152 (by kernel_rfl) (by kernel_rfl) ?_ rfl
                refine dx_bump [] le152 ?_
                refine dx_yld (fuel := 21) (i := 22) [] [true, true, true, true, true, true, true, true, true, true, true, true, true, true, true, true, true, true, true, true, true, true, true, false, false, false, false, false, false, false, false, false, false, false, false, false, false, false, false, false, false, false, false, false] (by kernel_rfl) (fun _ _ h => h) (by kernel_rfl) (y_indexA (dst := some 78) (A := A114) (len := ys72.length) (kk := .i64) (ii := i131) (sz := 2) (by kernel_rfl) hA147 (xs := ys72) rfl h144) (by kernel_rfl) (by kernel_rfl) ?_ rfl
                refine dx_exec (fuel := 20) [] [23] [1, 5, 6, 8, 9, 75, 79] [] [] [true, true, true, true, true, true, true, true, true, true, true, true, true, true, true, true, true, true, true, true, true, true, true, true, false, false, false, false, false, false, false, false, false, false, false, false, false, false, false, false, false, false, false, false] ⟨[(1, .v (.int .u16 by5)), (5, .v (.bool r8)), (6, .v (.slice A114 ys72.length c115)), (8, .v (.slice A124 r120.length c125)), (9, .v (.int .i64 i131)), (75, .v (.bool false)), (79, .v (.pointer (some ⟨b145, o146 + (i131).toNat * 2, none⟩)))], [], [], 0⟩ (by kernel_rfl) (fun _ _ h => h) (by kernel_rfl) (by kernel_rfl) ?_ rfl
                refine dx_yld (fuel := 19) (i := 24) [] [true, true, true, true, true, true, true, true, true, true, true, true, true, true, true, true, true, true, true, true, true, true, true, true, true, false, false, false, false, false, false, false, false, false, false, false, false, false, false, false, false, false, false, false] (by kernel_rfl) (fun _ _ h => h) (by kernel_rfl) (y_load1 (dst := some 80) (ad := ⟨b145, o146 + (i131).toNat * 2, none⟩) (sz := 1) (by kernel_rfl) (v := .int .i64 x143.1) (le152 _ _ (le130 _ _ (le123 _ _ (hc148 0 _ rfl))))) (by kernel_rfl) (by kernel_rfl) ?_ rfl
                obtain ⟨r171, h172, hl134⟩ := bind_t hl134
                refine dx_op (fuel := 18) (i := 25) [true, true, true, true, true, true, true, true, true, true, true, true, true, true, true, true, true, true, true, true, true, true, true, true, true, true, false, false, false, false, false, false, false, false, false, false, false, false, false, false, false, false, false, false] (by kernel_rfl) (by kernel_rfl) ?_ rfl
                refine o_call (dst := some 81) (g := 27) (args := [.int .i64 x143.1]) (by kernel_rfl) (by kernel_rfl) (fun v _ => v = .bool r171) (by intro w hst; exact isPointP_calls hst.sat x143.1 h172) ?_
                rintro _ M173 le174 rfl
                refine dx_know [] le174 (by kernel_rfl) ?_
                refine dx_exec (fuel := 16) [] [26, 27] [1, 5, 6, 8, 9, 75, 83] [] [] [true, true, true, true, true, true, true, true, true, true, true, true, true, true, true, true, true, true, true, true, true, true, true, true, true, true, true, true, false, false, false, false, false, false, false, false, false, false, false, false, false, false, false, false] ⟨[(1, .v (.int .u16 by5)), (5, .v (.bool r8)), (6, .v (.slice A114 ys72.length c115)), (8, .v (.slice A124 r120.length c125)), (9, .v (.int .i64 i131)), (75, .v (.bool false)), (83, .v (.bool (!r171)))], [], [], 0⟩ (by kernel_rfl) le174 (by kernel_rfl) (by kernel_rfl) ?_ rfl
                refine g_bool 83 (!r171) (by kernel_rfl) (fun hc175 => ?_) (fun hc175 => ?_)
                · replace hl134 := if_f (ne_t (bnot_t hc175)) hl134
                  refine dx_exec (fuel := 10) [] [28, 29, 33, 34, 38, 39] [1, 5, 6, 8, 9, 75, 83, 84, 85, 89, 90, 95] [] [] [true, true, true, true, true, true, true, true, true, true, true, true, true, true, true, true, true, true, true, true, true, true, true, true, true, true, true, true, true, true, false, false, false, true, true, false, false, false, true, true, false, false, false, false] ⟨[(1, .v (.int .u16 by5)), (5, .v (.bool r8)), (6, .v (.slice A114 ys72.length c115)), (8, .v (.slice A124 r120.length c125)), (9, .v (.int .i64 i131)), (75, .v (.bool false)), (83, .v (.bool true)), (84, .v (.slice A124 r120.length c125)), (85, .v (.int .i64 i131)), (89, .v (.slice A114 ys72.length c115)), (90, .v (.int .i64 i131)), (95, .v (.int .i64 (IntKind.i64.wrap by5)))], [], [], 0⟩ (by kernel_rfl) le174 (by kernel_rfl) (by kernel_rfl) ?_ rfl
                  refine dx_bump [] le174 ?_
                  obtain ⟨x176, h177, hl134⟩ := bind_t hl134
                  obtain ⟨b178, o179, _, hA180, rfl, hc181⟩ := SlF.at hA126 h177
                  refine dx_yld (fuel := 9) (i := 30) [] [true, true, true, true, true, true, true, true, true, true, true, true, true, true, true, true, true, true, true, true, true, true, true, true, true, true, true, true, true, true, true, false, false, true, true, false, false, false, true, true, false, false, false, false] (by kernel_rfl) (fun _ _ h => h) (by kernel_rfl) (y_indexA (dst := some 86) (A := A124) (len := r120.length) (kk := .i64) (ii := i131) (sz := 2) (by kernel_rfl) hA180 (xs := r120) rfl h177) (by kernel_rfl) (by kernel_rfl) ?_ rfl
                  refine dx_exec (fuel := 8) [] [31] [1, 5, 6, 8, 9, 75, 83, 87, 89, 90, 95] [] [] [true, true, true, true, true, true, true, true, true, true, true, true, true, true, true, true, true, true, true, true, true, true, true, true, true, true, true, true, true, true, true, true, false, true, true, false, false, false, true, true, false, false, false, false] ⟨[(1, .v (.int .u16 by5)), (5, .v (.bool r8)), (6, .v (.slice A114 ys72.length c115)), (8, .v (.slice A124 r120.length c125)), (9, .v (.int .i64 i131)), (75, .v (.bool false)), (83, .v (.bool true)), (87, .v (.pointer (some ⟨b178, o179 + (i131).toNat * 2, none⟩))), (89, .v (.slice A114 ys72.length c115)), (90, .v (.int .i64 i131)), (95, .v (.int .i64 (IntKind.i64.wrap by5)))], [], [], 0⟩ (by kernel_rfl) (fun _ _ h => h) (by kernel_rfl) (by kernel_rfl) ?_ rfl
                  refine dx_yld (fuel := 7) (i := 32) [] [true, true, true, true, true, true, true, true, true, true, true, true, true, true, true, true, true, true, true, true, true, true, true, true, true, true, true, true, true, true, true, true, true, true, true, false, false, false, true, true, false, false, false, false] (by kernel_rfl) (fun _ _ h => h) (by kernel_rfl) (y_load1 (dst := some 88) (ad := ⟨b178, o179 + (i131).toNat * 2, none⟩) (sz := 1) (by kernel_rfl) (v := .int .i64 x176.1) (le174 _ _ (le152 _ _ (le130 _ _ (hc181 0 _ rfl))))) (by kernel_rfl) (by kernel_rfl) ?_ rfl
                  refine dx_yld (fuel := 6) (i := 35) [] [true, true, true, true, true, true, true, true, true, true, true, true, true, true, true, true, true, true, true, true, true, true, true, true, true, true, true, true, true, true, true, true, true, true, true, true, false, false, true, true, false, false, false, false] (by kernel_rfl) (fun _ _ h => h) (by kernel_rfl) (y_indexA (dst := some 91) (A := A114) (len := ys72.length) (kk := .i64) (ii := i131) (sz := 2) (by kernel_rfl) hA147 (xs := ys72) rfl h144) (by kernel_rfl) (by kernel_rfl) ?_ rfl
                  refine dx_exec (fuel := 5) [] [36] [1, 5, 6, 8, 9, 75, 83, 88, 92, 95] [] [] [true, true, true, true, true, true, true, true, true, true, true, true, true, true, true, true, true, true, true, true, true, true, true, true, true, true, true, true, true, true, true, true, true, true, true, true, true, false, true, true, false, false, false, false] ⟨[(1, .v (.int .u16 by5)), (5, .v (.bool r8)), (6, .v (.slice A114 ys72.length c115)), (8, .v (.slice A124 r120.length c125)), (9, .v (.int .i64 i131)), (75, .v (.bool false)), (83, .v (.bool true)), (88, .v (.int .i64 x176.1)), (92, .v (.pointer (some ⟨b145, o146 + (i131).toNat * 2, none⟩))), (95, .v (.int .i64 (IntKind.i64.wrap by5)))], [], [], 0⟩ (by kernel_rfl) (fun _ _ h => h) (by kernel_rfl) (by kernel_rfl) ?_ rfl
                  refine dx_yld (fuel := 4) (i := 37) [] [true, true, true, true, true, true, true, true, true, true, true, true, true, true, true, true, true, true, true, true, true, true, true, true, true, true, true, true, true, true, true, true, true, true, true, true, true, true, true, true, false, false, false, false] (by kernel_rfl) (fun _ _ h => h) (by kernel_rfl) (y_load1 (dst := some 93) (ad := ⟨b145, o146 + (i131).toNat * 2, none⟩) (sz := 1) (by kernel_rfl) (v := .int .i64 x143.1) (le174 _ _ (le152 _ _ (le130 _ _ (le123 _ _ (hc148 0 _ rfl)))))) (by kernel_rfl) (by kernel_rfl) ?_ rfl
                  refine dx_exec (fuel := 0) [] [40, 41, 42, 43] [1, 5, 6, 8, 9, 99] [] [] [true, true, true, true, true, true, true, true, true, true, true, true, true, true, true, true, true, true, true, true, true, true, true, true, true, true, true, true, true, true, true, true, true, true, true, true, true, true, true, true, true, true, true, true] ⟨[(1, .v (.int .u16 by5)), (5, .v (.bool r8)), (6, .v (.slice A114 ys72.length c115)), (8, .v (.slice A124 r120.length c125)), (9, .v (.int .i64 i131)), (99, .v (.bool (x176.1 != (IntKind.i64.wrap (x143.1 + (IntKind.i64.wrap by5))))))], [], [], 0⟩ (by kernel_rfl) (fun _ _ h => h) (by kernel_rfl) (by kernel_rfl) ?_ rfl
                  refine d_end (by kernel_rfl) ?_
                  refine n_then ?_
                  refine g_cond ((x176.1 != (IntKind.i64.wrap (x143.1 + (IntKind.i64.wrap by5))))) (by kernel_rfl) (fun hc182 => ?_) (fun hc182 => ?_)
                  · replace hl134 := if_f (bne_t hc182) hl134
                    refine g_seq ?_
                    refine g_region ?_
                    refine g_exec 1 [4] [] [] (fun _ => ⟨[(4, .v (.bool false))], [], [], 0⟩) (fun _ => by kernel_rfl) fun _ => ?_
                    refine g_end (by kernel_rfl) ?_
                    refine n_then ?_
                    refine g_ret ?_
                    refine n_block_ret ?_
                    refine n_then_ret ?_
                    refine n_then_ret ?_
                    refine n_block_ret ?_
                    refine n_qj ?_
                    refine n_then_ret ?_
                    obtain rfl := some_inj hl134
                    replace h := orOn_l h
                    obtain rfl := some_inj h
                    exact n_post (.bool false) (by kernel_rfl) rfl
                  · replace hl134 := if_t (bne_f hc182) hl134
                    refine g_skip ?_
                    refine n_block ?_
                    refine n_then ?_
                    refine g_region ?_
                    refine g_exec 3 [1, 5, 6, 8, 9] [] [] (fun _ => ⟨[(1, .v (.int .u16 by5)), (5, .v (.bool r8)), (6, .v (.slice A114 ys72.length c115)), (8, .v (.slice A124 r120.length c125)), (9, .v (.int .i64 (IntKind.i64.wrap (i131 + 1))))], [], [], 0⟩) (fun _ => by kernel_rfl) fun _ => ?_
                    refine g_end (by kernel_rfl) ?_
                    refine n_then ?_
                    refine g_fin [1, 5, 6, 8, 9] [] [] ⟨[(1, .v (.int .u16 by5)), (5, .v (.bool r8)), (6, .v (.slice A114 ys72.length c115)), (8, .v (.slice A124 r120.length c125)), (9, .v (.int .i64 (IntKind.i64.wrap (i131 + 1))))], [], [], 0⟩ (by kernel_rfl) ?_
                    exact g_again q132 ⟨(IntKind.i64.wrap (i131 + 1)), rfl, hl134, (fun _ _ h => le174 _ _ (le152 _ _ (le130 _ _ h)))⟩ (Nat.lt_succ_self _)
                · replace hl134 := if_t (bnot_f hc175) hl134
                  refine dx_exec (fuel := 0) [] [28, 29, 30, 31, 32, 33, 34, 35, 36, 37, 38, 39, 40, 41, 42, 43] [1, 5, 6, 8, 9, 99] [] [] [true, true, true, true, true, true, true, true, true, true, true, true, true, true, true, true, true, true, true, true, true, true, true, true, true, true, true, true, true, true, true, true, true, true, true, true, true, true, true, true, true, true, true, true] ⟨[(1, .v (.int .u16 by5)), (5, .v (.bool r8)), (6, .v (.slice A114 ys72.length c115)), (8, .v (.slice A124 r120.length c125)), (9, .v (.int .i64 i131)), (99, .v (.bool false))], [], [], 0⟩ (by kernel_rfl) le174 (by kernel_rfl) (by kernel_rfl) ?_ rfl
                  refine d_end (by kernel_rfl) ?_
                  refine n_then ?_
                  refine g_cond false (by kernel_rfl) (fun hc => ?_) (fun hc => ?_)
                  · cases hc
                  · refine g_skip ?_
                    refine n_block ?_
                    refine n_then ?_
                    refine g_region ?_
                    refine g_exec 3 [1, 5, 6, 8, 9] [] [] (fun _ => ⟨[(1, .v (.int .u16 by5)), (5, .v (.bool r8)), (6, .v (.slice A114 ys72.length c115)), (8, .v (.slice A124 r120.length c125)), (9, .v (.int .i64 (IntKind.i64.wrap (i131 + 1))))], [], [], 0⟩) (fun _ => by kernel_rfl) fun _ => ?_
                    refine g_end (by kernel_rfl) ?_
                    refine n_then ?_
                    refine g_fin [1, 5, 6, 8, 9] [] [] ⟨[(1, .v (.int .u16 by5)), (5, .v (.bool r8)), (6, .v (.slice A114 ys72.length c115)), (8, .v (.slice A124 r120.length c125)), (9, .v (.int .i64 (IntKind.i64.wrap (i131 + 1))))], [], [], 0⟩ (by kernel_rfl) ?_
                    exact g_again q132 ⟨(IntKind.i64.wrap (i131 + 1)), rfl, hl134, (fun _ _ h => le174 _ _ (le152 _ _ (le130 _ _ h)))⟩ (Nat.lt_succ_self _)
            · replace hl134 := if_f (of_decide_eq_false hc142) hl134
              refine g_exit ?_
              refine n_then_exit ?_
              refine n_then_exit ?_
              refine n_block_exit ?_
              refine g_fin [1, 5, 6, 8] [] [] ⟨[(1, .v (.int .u16 by5)), (5, .v (.bool r8)), (6, .v (.slice A114 ys72.length c115)), (8, .v (.slice A124 r120.length c125))], [], [], 0⟩ (by kernel_rfl) ?_
              exact n_join ⟨rfl, some_inj hl134, le130⟩
          · replace hl134 := if_f (of_decide_eq_false hc140) hl134
            refine g_exec 5 [1, 5, 6, 8, 9, 53] [] [] (fun _ => ⟨[(1, .v (.int .u16 by5)), (5, .v (.bool r8)), (6, .v (.slice A114 ys72.length c115)), (8, .v (.slice A124 r120.length c125)), (9, .v (.int .i64 i131)), (53, .v (.bool false))], [], [], 0⟩) (fun _ => by kernel_rfl) fun _ => ?_
            refine g_end (by kernel_rfl) ?_
            refine n_then ?_
            refine g_cond false (by kernel_rfl) (fun hc => ?_) (fun hc => ?_)
            · cases hc
            · refine g_exit ?_
              refine n_then_exit ?_
              refine n_then_exit ?_
              refine n_block_exit ?_
              refine g_fin [1, 5, 6, 8] [] [] ⟨[(1, .v (.int .u16 by5)), (5, .v (.bool r8)), (6, .v (.slice A114 ys72.length c115)), (8, .v (.slice A124 r120.length c125))], [], [], 0⟩ (by kernel_rfl) ?_
              exact n_join ⟨rfl, some_inj hl134, le130⟩
      · rintro M136 _ ⟨rfl, ht133, le137⟩
        subst ht133
        replace h := orOn_r h
        refine n_then ?_
        refine g_seq ?_
        refine g_region ?_
        refine g_exec 2 [1, 6, 8, 101] [] [] (fun _ => ⟨[(1, .v (.int .u16 by5)), (6, .v (.slice A114 ys72.length c115)), (8, .v (.slice A124 r120.length c125)), (101, .v (.bool r8))], [], [], 0⟩) (fun _ => by kernel_rfl) fun _ => ?_
        refine g_bool 101 (r8) (by kernel_rfl) (fun hc188 => ?_) (fun hc188 => ?_)
        · replace h := if_t hc188 h
          refine g_exec 4 [1, 6, 8, 101, 102, 105] [] [] (fun _ => ⟨[(1, .v (.int .u16 by5)), (6, .v (.slice A114 ys72.length c115)), (8, .v (.slice A124 r120.length c125)), (101, .v (.bool true)), (102, .v (.slice A124 r120.length c125)), (105, .v (.int .i64 (IntKind.i64.wrap (0 - (IntKind.i64.wrap by5)))))], [], [], 0⟩) (fun _ => by kernel_rfl) fun _ => ?_
          obtain ⟨r190, h191, h⟩ := bind_t h
          refine g_call (dst := some 106) (g := 19) (args := [.slice A124 r120.length c125, .int .i64 (IntKind.i64.wrap (0 - (IntKind.i64.wrap by5)))]) (by kernel_rfl) (by kernel_rfl) (fun v M' => ∃ (A1 : Option Addr) (c2 : Nat), v = .slice A1 r190.length c2 ∧ SlF (fl chP) 2 M' A1 r190 c2) (by intro w hst; exact shiftP_calls hst.sat r120 A124 c125 (SlF.le hA126 le137) (IntKind.i64.wrap (0 - (IntKind.i64.wrap by5))) h191) ?_
          rintro _ M192 le193 ⟨A194, c195, rfl, hA196⟩
          refine g_exec 1 [1, 6, 8, 101, 106, 107] [] [] (fun _ => ⟨[(1, .v (.int .u16 by5)), (6, .v (.slice A114 ys72.length c115)), (8, .v (.slice A124 r120.length c125)), (101, .v (.bool true)), (106, .v (.slice A194 r190.length c195)), (107, .v (.slice A114 ys72.length c115))], [], [], 0⟩) (fun _ => by kernel_rfl) fun _ => ?_
          obtain ⟨r198, h199, h⟩ := bind_t h
          refine g_call (dst := some 108) (g := 32) (args := [.slice A194 r190.length c195, .slice A114 ys72.length c115]) (by kernel_rfl) (by kernel_rfl) (fun v _ => v = .bool r198) (by intro w hst; exact law10_same_calls k hst.sat r190 A194 c195 hA196 ys72 A114 c115 (SlF.le hA118 (fun _ _ h => le193 _ _ (le137 _ _ (le123 _ _ h)))) h199) ?_
          rintro _ M200 le201 rfl
          refine g_exec 2 [1, 6, 8, 110] [] [] (fun _ => ⟨[(1, .v (.int .u16 by5)), (6, .v (.slice A114 ys72.length c115)), (8, .v (.slice A124 r120.length c125)), (110, .v (.bool r198))], [], [], 0⟩) (fun _ => by kernel_rfl) fun _ => ?_
          refine g_bool 110 (r198) (by kernel_rfl) (fun hc203 => ?_) (fun hc203 => ?_)
          · replace h := if_t hc203 h
            refine g_exec 1 [1, 6, 110, 111] [] [] (fun _ => ⟨[(1, .v (.int .u16 by5)), (6, .v (.slice A114 ys72.length c115)), (110, .v (.bool true)), (111, .v (.slice A124 r120.length c125))], [], [], 0⟩) (fun _ => by kernel_rfl) fun _ => ?_
            obtain ⟨r205, h206, h⟩ := bind_t h
            refine g_call (dst := some 112) (g := 17) (args := [.slice A124 r120.length c125]) (by kernel_rfl) (by kernel_rfl) (fun v M' => ∃ (A1 : Option Addr) (c2 : Nat), v = .slice A1 r205.length c2 ∧ SlF (fl chP) 2 M' A1 r205 c2) (by intro w hst; exact normP_calls hst.sat r120 A124 c125 (SlF.le hA126 (fun _ _ h => le201 _ _ (le193 _ _ (le137 _ _ h)))) h206) ?_
            rintro _ M207 le208 ⟨A209, c210, rfl, hA211⟩
            refine g_exec 1 [1, 110, 112, 113] [] [] (fun _ => ⟨[(1, .v (.int .u16 by5)), (110, .v (.bool true)), (112, .v (.slice A209 r205.length c210)), (113, .v (.slice A114 ys72.length c115))], [], [], 0⟩) (fun _ => by kernel_rfl) fun _ => ?_
            obtain ⟨r213, h214, h⟩ := bind_t h
            refine g_call (dst := some 114) (g := 17) (args := [.slice A114 ys72.length c115]) (by kernel_rfl) (by kernel_rfl) (fun v M' => ∃ (A1 : Option Addr) (c2 : Nat), v = .slice A1 r213.length c2 ∧ SlF (fl chP) 2 M' A1 r213 c2) (by intro w hst; exact normP_calls hst.sat ys72 A114 c115 (SlF.le hA118 (fun _ _ h => le208 _ _ (le201 _ _ (le193 _ _ (le137 _ _ (le123 _ _ h)))))) h214) ?_
            rintro _ M215 le216 ⟨A217, c218, rfl, hA219⟩
            refine g_exec 2 [110, 112, 114, 116] [] [] (fun _ => ⟨[(110, .v (.bool true)), (112, .v (.slice A209 r205.length c210)), (114, .v (.slice A217 r213.length c218)), (116, .v (.int .i64 (IntKind.i64.wrap by5)))], [], [], 0⟩) (fun _ => by kernel_rfl) fun _ => ?_
            obtain ⟨r221, h222, h⟩ := bind_t h
            refine g_call (dst := some 117) (g := 19) (args := [.slice A217 r213.length c218, .int .i64 (IntKind.i64.wrap by5)]) (by kernel_rfl) (by kernel_rfl) (fun v M' => ∃ (A1 : Option Addr) (c2 : Nat), v = .slice A1 r221.length c2 ∧ SlF (fl chP) 2 M' A1 r221 c2) (by intro w hst; exact shiftP_calls hst.sat r213 A217 c218 hA219 (IntKind.i64.wrap by5) h222) ?_
            rintro _ M223 le224 ⟨A225, c226, rfl, hA227⟩
            obtain ⟨r229, h230, h⟩ := bind_t h
            refine g_call (dst := some 118) (g := 32) (args := [.slice A209 r205.length c210, .slice A225 r221.length c226]) (by kernel_rfl) (by kernel_rfl) (fun v _ => v = .bool r229) (by intro w hst; exact law10_same_calls k hst.sat r205 A209 c210 (SlF.le hA211 (fun _ _ h => le224 _ _ (le216 _ _ h))) r221 A225 c226 hA227 h230) ?_
            rintro _ M231 le232 rfl
            refine g_exec 2 [4] [] [] (fun _ => ⟨[(4, .v (.bool r229))], [], [], 0⟩) (fun _ => by kernel_rfl) fun _ => ?_
            refine g_end (by kernel_rfl) ?_
            refine n_then ?_
            refine g_ret ?_
            obtain rfl := some_inj h
            exact n_post (.bool r229) (by kernel_rfl) rfl
          · replace h := if_f (ne_t hc203) h
            refine g_exec 10 [4] [] [] (fun _ => ⟨[(4, .v (.bool false))], [], [], 0⟩) (fun _ => by kernel_rfl) fun _ => ?_
            refine g_end (by kernel_rfl) ?_
            refine n_then ?_
            refine g_ret ?_
            obtain rfl := some_inj h
            exact n_post (.bool false) (by kernel_rfl) rfl
        · replace h := if_f (ne_t hc188) h
          refine g_exec 19 [4] [] [] (fun _ => ⟨[(4, .v (.bool false))], [], [], 0⟩) (fun _ => by kernel_rfl) fun _ => ?_
          refine g_end (by kernel_rfl) ?_
          refine n_then ?_
          refine g_ret ?_
          obtain rfl := some_inj h
          exact n_post (.bool false) (by kernel_rfl) rfl
end Go.Ch
