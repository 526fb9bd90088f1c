import Derived.Test.YtpnkncinmoogpaaGreatDoorTAdapt
set_option linter.unusedVariables false
namespace Go.Ch
open Go Go.Eng Go.Proofs
def law10_AtomRenames_l1 (n5 : Int) (r17 : (List Int)) : Nat → (List Int) → Int → Option ((List Int))
  | 0, _, _ => none
  | q + 1, ys57, i63 => (if i63 < (r17.length : Int) then ((pointP (IntKind.i64.wrap ((IntKind.i64.wrap (1000000 + (IntKind.i64.wrap n5))) + i63)))).bind fun r80 => ((apd 8 ys57 [r80])).bind fun ys87 => law10_AtomRenames_l1 n5 r17 q ys87 (IntKind.i64.wrap (i63 + 1)) else some ys57)
def law10_AtomRenames_l2 (l1 : List (Int × Int)) (r8 : Bool) : Nat → Int → Option ((Bool) ⊕ (Unit))
  | 0, _ => none
  | q + 1, i99 => (if i99 < (l1.length : Int) then ((idx l1 i99)).bind fun x110 => (if x110.1 < (-1000000) then some (.inl r8) else (if x110.2 < (-1000000) then some (.inl r8) else law10_AtomRenames_l2 l1 r8 q (IntKind.i64.wrap (i99 + 1)))) else some (.inr ()))
def law10_AtomRenames (k : Nat) (l1 : List (Int × Int)) (n5 : Int) : Option (Bool) := ((exP)).bind fun r8 => (if r8 = true then ((varsP l1)).bind fun r17 => (law10_AtomRenames_l1 n5 r17 k ([] : List Int) 0).bind (fun ys70 => (law10_AtomRenames_l2 l1 r8 k 0).bind (orOn some (fun _ => ((renameP l1 r17 ys70)).bind fun r135 => (if r8 = true then ((varsP r135)).bind fun r146 => (if (r146.length : Int) = 0 then ((renameP r135 ys70 r17)).bind fun r156 => ((law10_same k r156 l1)).bind fun r164 => (if r164 = true then ((renameP l1 ys70 r17)).bind fun r171 => ((law10_same k r171 l1)).bind fun r179 => (if r179 = true then ((renameP l1 ([] : List Int) ([] : List Int))).bind fun r186 => ((law10_same k r186 l1)).bind fun r194 => some r194 else some false) else some false) else some false) else some false)))) else some false)
theorem law10_AtomRenames_calls (k : Nat) {M : Mem} {w : World} (hM : Sat M w) (hT : TabW w) (l1 : List (Int × Int)) (A2 : Option Addr) (c3 : Nat) (hA4 : SlF (fl chP) 2 M A2 l1 c3) (n5 : Int) {r : Bool} (h : law10_AtomRenames k l1 n5 = some r) : Ct Tryz.prog 8 [.slice A2 l1.length c3, .int .u8 n5] [] w M (fun v _ => v = .bool r) := by
  unfold law10_AtomRenames at h
  refine enter (n := 85) Tryz.func8 rfl rfl _ (by kernel_rfl) hM ?_
  refine g_seq ?_
  refine g_region ?_
  refine g_exec 1 [0, 1] [] [] (fun _ => ⟨[(0, .v (.slice A2 l1.length c3)), (1, .v (.int .u8 n5))], [], [], 0⟩) (fun _ => by kernel_rfl) fun _ => ?_
  refine g_end (by kernel_rfl) ?_
  refine n_then ?_
  refine g_seq ?_
  refine g_region ?_
  obtain ⟨r8, h9, h⟩ := bind_t h
  refine g_call (dst := some 11) (g := 9) (args := []) (by kernel_rfl) (by kernel_rfl) (fun v _ => v = .bool r8) (by intro w hst; exact exP_calls hst.sat (hT.ext hst.ext0)  h9) ?_
  rintro _ M10 le11 rfl
  refine g_exec 1 [0, 1, 5] [] [] (fun _ => ⟨[(0, .v (.slice A2 l1.length c3)), (1, .v (.int .u8 n5)), (5, .v (.bool r8))], [], [], 0⟩) (fun _ => by kernel_rfl) fun _ => ?_
  refine g_end (by kernel_rfl) ?_
  refine n_then ?_
  refine g_seq ?_
  refine g_seq ?_
  refine g_region ?_
  refine g_exec 2 [0, 1, 5, 13] [] [] (fun _ => ⟨[(0, .v (.slice A2 l1.length c3)), (1, .v (.int .u8 n5)), (5, .v (.bool r8)), (13, .v (.bool (!r8)))], [], [], 0⟩) (fun _ => by kernel_rfl) fun _ => ?_
  refine g_end (by kernel_rfl) ?_
  refine n_then ?_
  refine g_cond (!r8) (by kernel_rfl) (fun hc14 => ?_) (fun hc14 => ?_)
  · replace h := if_f (ne_t (bnot_t hc14)) h
    refine g_seq ?_
    refine g_region ?_
    refine g_exec 1 [4] [] [] (fun _ => ⟨[(4, .v (.bool false))], [], [], 0⟩) (fun _ => by kernel_rfl) fun _ => ?_
    refine g_end (by kernel_rfl) ?_
    refine n_then ?_
    refine g_ret ?_
    refine n_then_ret ?_
    obtain rfl := some_inj h
    exact n_post (.bool false) (by kernel_rfl) rfl
  · replace h := if_t (bnot_f hc14) h
    refine g_skip ?_
    refine n_then ?_
    refine g_seq ?_
    refine g_region ?_
    refine g_exec 1 [0, 1, 5, 14] [] [] (fun _ => ⟨[(0, .v (.slice A2 l1.length c3)), (1, .v (.int .u8 n5)), (5, .v (.bool r8)), (14, .v (.slice A2 l1.length c3))], [], [], 0⟩) (fun _ => by kernel_rfl) fun _ => ?_
    obtain ⟨r17, h18, h⟩ := bind_t h
    refine g_call (dst := some 15) (g := 12) (args := [.slice A2 l1.length c3]) (by kernel_rfl) (by kernel_rfl) (fun v M' => ∃ (A1 : Option Addr) (c2 : Nat), v = .slice A1 r17.length c2 ∧ SlF (fl chI) 1 M' A1 r17 c2) (by intro w hst; exact varsP_calls hst.sat l1 A2 c3 (SlF.le hA4 le11) h18) ?_
    rintro _ M19 le20 ⟨A21, c22, rfl, hA23⟩
    refine g_exec 1 [0, 1, 5, 6] [] [] (fun _ => ⟨[(0, .v (.slice A2 l1.length c3)), (1, .v (.int .u8 n5)), (5, .v (.bool r8)), (6, .v (.slice A21 r17.length c22))], [], [], 0⟩) (fun _ => by kernel_rfl) fun _ => ?_
    refine g_end (by kernel_rfl) ?_
    refine n_then ?_
    refine g_seq ?_
    refine g_region ?_
    refine g_exec 1 [0, 1, 5, 6, 7] [] [] (fun _ => ⟨[(0, .v (.slice A2 l1.length c3)), (1, .v (.int .u8 n5)), (5, .v (.bool r8)), (6, .v (.slice A21 r17.length c22)), (7, .v (.slice none 0 0))], [], [], 0⟩) (fun _ => by kernel_rfl) fun _ => ?_
    refine g_end (by kernel_rfl) ?_
    refine n_then ?_
    refine g_seq ?_
    refine g_seq ?_
    refine g_region ?_
    refine g_exec 1 [0, 1, 5, 6, 7, 8] [] [] (fun _ => ⟨[(0, .v (.slice A2 l1.length c3)), (1, .v (.int .u8 n5)), (5, .v (.bool r8)), (6, .v (.slice A21 r17.length c22)), (7, .v (.slice none 0 0)), (8, .v (.int .i64 0))], [], [], 0⟩) (fun _ => by kernel_rfl) fun _ => ?_
    refine g_end (by kernel_rfl) ?_
    refine n_then ?_
    refine g_fin [0, 1, 5, 6, 7, 8] [] [] ⟨[(0, .v (.slice A2 l1.length c3)), (1, .v (.int .u8 n5)), (5, .v (.bool r8)), (6, .v (.slice A21 r17.length c22)), (7, .v (.slice none 0 0)), (8, .v (.int .i64 0))], [], [], 0⟩ (by kernel_rfl) ?_
    refine g_newrow 0 24 1 (by rfl) ?_
    obtain ⟨t67, h76, h⟩ := bind_t h
    refine g_blockJ (fun M68 s => ∃ (ys70 : List Int) (v71 : Value) (n72 : Nat) (cs73 : List Value), s = ⟨[(0, .v (.slice A2 l1.length c3)), (5, .v (.bool r8)), (6, .v (.slice A21 r17.length c22)), (7, .v (v71))], [], [(0, ⟨v71, 24, 1, n72, cs73⟩)], 0⟩ ∧ Cells ((fl chI) M68) 1 ys70 cs73 ∧ n72 = ys70.length ∧ ys70 = t67 ∧ (∀ a u, M19 a = some u → M68 a = some u)) ?_ ?_
    · refine g_while (ι := Nat) (fun q64 M55 s => ∃ (ys57 : List Int) (v58 : Value) (n59 : Nat) (cs60 : List Value) (i63 : Int), s = ⟨[(0, .v (.slice A2 l1.length c3)), (1, .v (.int .u8 n5)), (5, .v (.bool r8)), (6, .v (.slice A21 r17.length c22)), (7, .v (v58)), (8, .v (.int .i64 i63))], [], [(0, ⟨v58, 24, 1, n59, cs60⟩)], 0⟩ ∧ Cells ((fl chI) M55) 1 ys57 cs60 ∧ n59 = ys57.length ∧ law10_AtomRenames_l1 n5 r17 q64 ys57 i63 = some t67 ∧ (∀ a u, M19 a = some u → M55 a = some u)) (fun q64 => q64) k ⟨([] : List Int), (.slice none 0 0), 0, [], 0, rfl, Cells.nil', rfl, h76, (fun _ _ h => h)⟩ ?_
      rintro q64 M55 _ ⟨ys57, v58, n59, cs60, i63, rfl, hcl61, hn62, hl66, le56⟩
      obtain _ | q64 := q64
      · cases hl66
      · rw [law10_AtomRenames_l1] at hl66
        refine g_seq ?_
        refine g_seq ?_
        refine g_region ?_
        refine g_exec 4 [0, 1, 5, 6, 7, 8, 19] [] [0] (fun _ => ⟨[(0, .v (.slice A2 l1.length c3)), (1, .v (.int .u8 n5)), (5, .v (.bool r8)), (6, .v (.slice A21 r17.length c22)), (7, .v (v58)), (8, .v (.int .i64 i63)), (19, .v (.bool (decide (i63 < (r17.length : Int)))))], [], [(0, ⟨v58, 24, 1, n59, cs60⟩)], 0⟩) (fun _ => by kernel_rfl) fun _ => ?_
        refine g_end (by kernel_rfl) ?_
        refine n_then ?_
        refine g_cond (decide (i63 < (r17.length : Int))) (by kernel_rfl) (fun hc78 => ?_) (fun hc78 => ?_)
        · replace hl66 := if_t (of_decide_eq_true hc78) hl66
          refine g_skip ?_
          refine n_then ?_
          refine g_seq ?_
          refine g_block ?_
          refine g_region ?_
          refine g_exec 6 [0, 1, 5, 6, 7, 8, 22, 27] [] [0] (fun _ => ⟨[(0, .v (.slice A2 l1.length c3)), (1, .v (.int .u8 n5)), (5, .v (.bool r8)), (6, .v (.slice A21 r17.length c22)), (7, .v (v58)), (8, .v (.int .i64 i63)), (22, .v (v58)), (27, .v (.int .i64 (IntKind.i64.wrap ((IntKind.i64.wrap (1000000 + (IntKind.i64.wrap n5))) + i63))))], [], [(0, ⟨v58, 24, 1, n59, cs60⟩)], 0⟩) (fun _ => by kernel_rfl) fun _ => ?_
          obtain ⟨r80, h81, hl66⟩ := bind_t hl66
          refine g_call (dst := some 28) (g := 23) (args := [.int .i64 (IntKind.i64.wrap ((IntKind.i64.wrap (1000000 + (IntKind.i64.wrap n5))) + i63))]) (by kernel_rfl) (by kernel_rfl) (fun v _ => v = .int .i64 r80) (by intro w hst; exact pointP_calls hst.sat (IntKind.i64.wrap ((IntKind.i64.wrap (1000000 + (IntKind.i64.wrap n5))) + i63)) h81) ?_
          rintro _ M82 le83 rfl
          refine g_step (used := true) (fun f85 => ⟨[(29, .v (.slice (some ⟨f85, 0, none⟩) 1 1)), (28, .v (.int .i64 r80)), (0, .v (.slice A2 l1.length c3)), (1, .v (.int .u8 n5)), (5, .v (.bool r8)), (6, .v (.slice A21 r17.length c22)), (7, .v (v58)), (8, .v (.int .i64 i63)), (22, .v (v58)), (27, .v (.int .i64 (IntKind.i64.wrap ((IntKind.i64.wrap (1000000 + (IntKind.i64.wrap n5))) + i63))))], [(0, .cells f85 [.int .i64 r80] 24)], [(0, ⟨v58, 24, 1, n59, cs60⟩)], 1⟩) rfl (by kernel_rfl) (fun _ => by kernel_rfl) (fun f85 => ?_)
          obtain ⟨ys87, h93, hl66⟩ := bind_t hl66
          obtain ⟨hcl89, hn90, hb91, hb92⟩ := row_apd (rep := (fl chI) M82) (sz := 1) (d := [.int .i64 r80]) h93 (Cells.mono (RepM.mono (rep := (fl chI)) le83) hcl61) hn62 (Cells.cons (rep := (fl chI) M82) (sz := 1) (x := r80) (c := [.int .i64 r80]) (rfl) rfl (Cells.nil'))
          refine g_append (dst := some 30) 0 0 1 (u := v58) (row := ⟨v58, 24, 1, n59, cs60⟩) (b := f85) (cs := [.int .i64 r80]) (bytes := 8) (by kernel_rfl) rfl rfl hb91 hb92 ?_
          intro v88
          refine g_exec 1 [0, 1, 5, 6, 7, 8] [] [0] (fun _ => ⟨[(0, .v (.slice A2 l1.length c3)), (1, .v (.int .u8 n5)), (5, .v (.bool r8)), (6, .v (.slice A21 r17.length c22)), (7, .v (v88)), (8, .v (.int .i64 i63))], [], [(0, ⟨v88, 24, 1, n59 + 1, cs60 ++ [.int .i64 r80]⟩)], 0⟩) (fun _ => by kernel_rfl) fun _ => ?_
          refine g_end (by kernel_rfl) ?_
          refine n_block ?_
          refine n_then ?_
          refine g_region ?_
          refine g_exec 3 [0, 1, 5, 6, 7, 8] [] [0] (fun _ => ⟨[(0, .v (.slice A2 l1.length c3)), (1, .v (.int .u8 n5)), (5, .v (.bool r8)), (6, .v (.slice A21 r17.length c22)), (7, .v (v88)), (8, .v (.int .i64 (IntKind.i64.wrap (i63 + 1))))], [], [(0, ⟨v88, 24, 1, n59 + 1, cs60 ++ [.int .i64 r80]⟩)], 0⟩) (fun _ => by kernel_rfl) fun _ => ?_
          refine g_end (by kernel_rfl) ?_
          refine n_then ?_
          refine g_fin [0, 1, 5, 6, 7, 8] [] [0] ⟨[(0, .v (.slice A2 l1.length c3)), (1, .v (.int .u8 n5)), (5, .v (.bool r8)), (6, .v (.slice A21 r17.length c22)), (7, .v (v88)), (8, .v (.int .i64 (IntKind.i64.wrap (i63 + 1))))], [], [(0, ⟨v88, 24, 1, n59 + 1, cs60 ++ [.int .i64 r80]⟩)], 0⟩ (by kernel_rfl) ?_
          exact g_again q64 ⟨ys87, v88, (n59 + 1), (cs60 ++ [.int .i64 r80]), (IntKind.i64.wrap (i63 + 1)), rfl, hcl89, hn90, hl66, (fun _ _ h => le83 _ _ (le56 _ _ h))⟩ (Nat.lt_succ_self _)
        · replace hl66 := if_f (of_decide_eq_false hc78) hl66
          refine g_exit ?_
          refine n_then_exit ?_
          refine n_then_exit ?_
          refine n_block_exit ?_
          refine g_fin [0, 5, 6, 7] [] [0] ⟨[(0, .v (.slice A2 l1.length c3)), (5, .v (.bool r8)), (6, .v (.slice A21 r17.length c22)), (7, .v (v58))], [], [(0, ⟨v58, 24, 1, n59, cs60⟩)], 0⟩ (by kernel_rfl) ?_
          exact n_join ⟨ys57, v58, n59, cs60, rfl, hcl61, hn62, some_inj hl66, le56⟩
    · rintro M68 _ ⟨ys70, v71, n72, cs73, rfl, hcl74, hn75, ht65, le69⟩
      subst ht65
      refine n_then ?_
      refine g_seq ?_
      refine g_seq ?_
      refine g_region ?_
      refine g_exec 1 [0, 5, 6, 7, 9] [] [0] (fun _ => ⟨[(0, .v (.slice A2 l1.length c3)), (5, .v (.bool r8)), (6, .v (.slice A21 r17.length c22)), (7, .v (v71)), (9, .v (.int .i64 0))], [], [(0, ⟨v71, 24, 1, n72, cs73⟩)], 0⟩) (fun _ => by kernel_rfl) fun _ => ?_
      refine g_end (by kernel_rfl) ?_
      refine n_then ?_
      refine g_fin [0, 5, 6, 7, 9] [] [0] ⟨[(0, .v (.slice A2 l1.length c3)), (5, .v (.bool r8)), (6, .v (.slice A21 r17.length c22)), (7, .v (v71)), (9, .v (.int .i64 0))], [], [(0, ⟨v71, 24, 1, n72, cs73⟩)], 0⟩ (by kernel_rfl) ?_
      obtain ⟨t103, h106, h⟩ := bind_t h
      refine g_blockJ (fun M104 s => s = ⟨[(0, .v (.slice A2 l1.length c3)), (5, .v (.bool r8)), (6, .v (.slice A21 r17.length c22)), (7, .v (v71))], [], [(0, ⟨v71, 24, 1, n72, cs73⟩)], 0⟩ ∧ .inr () = t103 ∧ (∀ a u, M68 a = some u → M104 a = some u)) ?_ ?_
      · refine g_while (ι := Nat) (fun q100 M97 s => ∃ (i99 : Int), s = ⟨[(0, .v (.slice A2 l1.length c3)), (5, .v (.bool r8)), (6, .v (.slice A21 r17.length c22)), (7, .v (v71)), (9, .v (.int .i64 i99))], [], [(0, ⟨v71, 24, 1, n72, cs73⟩)], 0⟩ ∧ law10_AtomRenames_l2 l1 r8 q100 i99 = some t103 ∧ (∀ a u, M68 a = some u → M97 a = some u)) (fun q100 => q100) k ⟨0, rfl, h106, (fun _ _ h => h)⟩ ?_
        rintro q100 M97 _ ⟨i99, rfl, hl102, le98⟩
        obtain _ | q100 := q100
        · cases hl102
        · rw [law10_AtomRenames_l2] at hl102
          refine g_seq ?_
          refine g_seq ?_
          refine g_region ?_
          refine g_exec 4 [0, 5, 6, 7, 9, 34] [] [0] (fun _ => ⟨[(0, .v (.slice A2 l1.length c3)), (5, .v (.bool r8)), (6, .v (.slice A21 r17.length c22)), (7, .v (v71)), (9, .v (.int .i64 i99)), (34, .v (.bool (decide (i99 < (l1.length : Int)))))], [], [(0, ⟨v71, 24, 1, n72, cs73⟩)], 0⟩) (fun _ => by kernel_rfl) fun _ => ?_
          refine g_end (by kernel_rfl) ?_
          refine n_then ?_
          refine g_cond (decide (i99 < (l1.length : Int))) (by kernel_rfl) (fun hc108 => ?_) (fun hc108 => ?_)
          · replace hl102 := if_t (of_decide_eq_true hc108) hl102
            refine g_skip ?_
            refine n_then ?_
            refine g_seq ?_
            refine g_block ?_
            refine g_seq ?_
            refine g_region ?_
            refine g_exec 2 [0, 5, 6, 7, 9, 37, 38] [] [0] (fun _ => ⟨[(0, .v (.slice A2 l1.length c3)), (5, .v (.bool r8)), (6, .v (.slice A21 r17.length c22)), (7, .v (v71)), (9, .v (.int .i64 i99)), (37, .v (.slice A2 l1.length c3)), (38, .v (.int .i64 i99))], [], [(0, ⟨v71, 24, 1, n72, cs73⟩)], 0⟩) (fun _ => by kernel_rfl) fun _ => ?_
            obtain ⟨x110, h111, hl102⟩ := bind_t hl102
            obtain ⟨b112, o113, _, hA114, rfl, hc115⟩ := SlF.at hA4 h111
            refine g_yld (y_indexA (dst := some 39) (A := A2) (len := l1.length) (kk := .i64) (ii := i99) (sz := 2) (by kernel_rfl) hA114 (xs := l1) rfl h111) ?_
            refine g_exec 1 [0, 5, 6, 7, 9, 40] [] [0] (fun _ => ⟨[(0, .v (.slice A2 l1.length c3)), (5, .v (.bool r8)), (6, .v (.slice A21 r17.length c22)), (7, .v (v71)), (9, .v (.int .i64 i99)), (40, .v (.pointer (some ⟨b112, o113 + (i99).toNat * 2, none⟩)))], [], [(0, ⟨v71, 24, 1, n72, cs73⟩)], 0⟩) (fun _ => by kernel_rfl) fun _ => ?_
            refine g_yld (y_load1 (dst := some 41) (ad := ⟨b112, o113 + (i99).toNat * 2, none⟩) (sz := 1) (by kernel_rfl) (v := .int .i64 x110.1) (le98 _ _ (le69 _ _ (le20 _ _ (le11 _ _ (hc115 0 _ rfl)))))) ?_
            refine g_exec 2 [0, 5, 6, 7, 9, 43] [] [0] (fun _ => ⟨[(0, .v (.slice A2 l1.length c3)), (5, .v (.bool r8)), (6, .v (.slice A21 r17.length c22)), (7, .v (v71)), (9, .v (.int .i64 i99)), (43, .v (.bool (decide (x110.1 < (-1000000)))))], [], [(0, ⟨v71, 24, 1, n72, cs73⟩)], 0⟩) (fun _ => by kernel_rfl) fun _ => ?_
            refine g_bool 43 (decide (x110.1 < (-1000000))) (by kernel_rfl) (fun hc118 => ?_) (fun hc118 => ?_)
            · replace hl102 := if_t (of_decide_eq_true hc118) hl102
              refine g_exec 7 [0, 5, 6, 7, 9, 50] [] [0] (fun _ => ⟨[(0, .v (.slice A2 l1.length c3)), (5, .v (.bool r8)), (6, .v (.slice A21 r17.length c22)), (7, .v (v71)), (9, .v (.int .i64 i99)), (50, .v (.bool true))], [], [(0, ⟨v71, 24, 1, n72, cs73⟩)], 0⟩) (fun _ => by kernel_rfl) fun _ => ?_
              refine g_end (by kernel_rfl) ?_
              refine n_then ?_
              refine g_cond true (by kernel_rfl) (fun hc => ?_) (fun hc => ?_)
              · refine g_seq ?_
                refine g_region ?_
                refine g_exec 2 [4] [] [] (fun _ => ⟨[(4, .v (.bool r8))], [], [], 0⟩) (fun _ => by kernel_rfl) fun _ => ?_
                refine g_end (by kernel_rfl) ?_
                refine n_then ?_
                refine g_ret ?_
                refine n_block_ret ?_
                refine n_then_ret ?_
                refine n_then_ret ?_
                refine n_block_ret ?_
                refine n_qj ?_
                refine n_then_ret ?_
                obtain rfl := some_inj hl102
                replace h := orOn_l h
                obtain rfl := some_inj h
                exact n_post (.bool r8) (by kernel_rfl) rfl
              · cases hc
            · replace hl102 := if_f (of_decide_eq_false hc118) hl102
              refine g_exec 2 [0, 5, 6, 7, 9, 43, 44, 45] [] [0] (fun _ => ⟨[(0, .v (.slice A2 l1.length c3)), (5, .v (.bool r8)), (6, .v (.slice A21 r17.length c22)), (7, .v (v71)), (9, .v (.int .i64 i99)), (43, .v (.bool false)), (44, .v (.slice A2 l1.length c3)), (45, .v (.int .i64 i99))], [], [(0, ⟨v71, 24, 1, n72, cs73⟩)], 0⟩) (fun _ => by kernel_rfl) fun _ => ?_
              refine g_yld (y_indexA (dst := some 46) (A := A2) (len := l1.length) (kk := .i64) (ii := i99) (sz := 2) (by kernel_rfl) hA114 (xs := l1) rfl h111) ?_
              refine g_exec 1 [0, 5, 6, 7, 9, 43, 47] [] [0] (fun _ => ⟨[(0, .v (.slice A2 l1.length c3)), (5, .v (.bool r8)), (6, .v (.slice A21 r17.length c22)), (7, .v (v71)), (9, .v (.int .i64 i99)), (43, .v (.bool false)), (47, .v (.pointer (some ⟨b112, o113 + (i99).toNat * 2 + 1, none⟩)))], [], [(0, ⟨v71, 24, 1, n72, cs73⟩)], 0⟩) (fun _ => by kernel_rfl) fun _ => ?_
              refine g_yld (y_load1 (dst := some 48) (ad := ⟨b112, o113 + (i99).toNat * 2 + 1, none⟩) (sz := 1) (by kernel_rfl) (v := .int .i64 x110.2) (le98 _ _ (le69 _ _ (le20 _ _ (le11 _ _ (hc115 1 _ rfl)))))) ?_
              refine g_exec 2 [0, 5, 6, 7, 9, 50] [] [0] (fun _ => ⟨[(0, .v (.slice A2 l1.length c3)), (5, .v (.bool r8)), (6, .v (.slice A21 r17.length c22)), (7, .v (v71)), (9, .v (.int .i64 i99)), (50, .v (.bool (decide (x110.2 < (-1000000)))))], [], [(0, ⟨v71, 24, 1, n72, cs73⟩)], 0⟩) (fun _ => by kernel_rfl) fun _ => ?_
              refine g_end (by kernel_rfl) ?_
              refine n_then ?_
              refine g_cond (decide (x110.2 < (-1000000))) (by kernel_rfl) (fun hc124 => ?_) (fun hc124 => ?_)
              · replace hl102 := if_t (of_decide_eq_true hc124) hl102
                refine g_seq ?_
                refine g_region ?_
                refine g_exec 2 [4] [] [] (fun _ => ⟨[(4, .v (.bool r8))], [], [], 0⟩) (fun _ => by kernel_rfl) fun _ => ?_
                refine g_end (by kernel_rfl) ?_
                refine n_then ?_
                refine g_ret ?_
                refine n_block_ret ?_
                refine n_then_ret ?_
                refine n_then_ret ?_
                refine n_block_ret ?_
                refine n_qj ?_
                refine n_then_ret ?_
                obtain rfl := some_inj hl102
                replace h := orOn_l h
                obtain rfl := some_inj h
                exact n_post (.bool r8) (by kernel_rfl) rfl
              · replace hl102 := if_f (of_decide_eq_false hc124) hl102
                refine g_skip ?_
                refine n_block ?_
                refine n_then ?_
                refine g_region ?_
                refine g_exec 3 [0, 5, 6, 7, 9] [] [0] (fun _ => ⟨[(0, .v (.slice A2 l1.length c3)), (5, .v (.bool r8)), (6, .v (.slice A21 r17.length c22)), (7, .v (v71)), (9, .v (.int .i64 (IntKind.i64.wrap (i99 + 1))))], [], [(0, ⟨v71, 24, 1, n72, cs73⟩)], 0⟩) (fun _ => by kernel_rfl) fun _ => ?_
                refine g_end (by kernel_rfl) ?_
                refine n_then ?_
                refine g_fin [0, 5, 6, 7, 9] [] [0] ⟨[(0, .v (.slice A2 l1.length c3)), (5, .v (.bool r8)), (6, .v (.slice A21 r17.length c22)), (7, .v (v71)), (9, .v (.int .i64 (IntKind.i64.wrap (i99 + 1))))], [], [(0, ⟨v71, 24, 1, n72, cs73⟩)], 0⟩ (by kernel_rfl) ?_
                exact g_again q100 ⟨(IntKind.i64.wrap (i99 + 1)), rfl, hl102, le98⟩ (Nat.lt_succ_self _)
          · replace hl102 := if_f (of_decide_eq_false hc108) hl102
            refine g_exit ?_
            refine n_then_exit ?_
            refine n_then_exit ?_
            refine n_block_exit ?_
            refine g_fin [0, 5, 6, 7] [] [0] ⟨[(0, .v (.slice A2 l1.length c3)), (5, .v (.bool r8)), (6, .v (.slice A21 r17.length c22)), (7, .v (v71))], [], [(0, ⟨v71, 24, 1, n72, cs73⟩)], 0⟩ (by kernel_rfl) ?_
            exact n_join ⟨rfl, some_inj hl102, le98⟩
      · rintro M104 _ ⟨rfl, ht101, le105⟩
        subst ht101
        replace h := orOn_r h
        refine n_then ?_
        refine g_seq ?_
        refine g_region ?_
        refine g_exec 3 [0, 5, 6, 7, 52, 53, 54] [] [0] (fun _ => ⟨[(0, .v (.slice A2 l1.length c3)), (5, .v (.bool r8)), (6, .v (.slice A21 r17.length c22)), (7, .v (v71)), (52, .v (.slice A2 l1.length c3)), (53, .v (.slice A21 r17.length c22)), (54, .v (v71))], [], [(0, ⟨v71, 24, 1, n72, cs73⟩)], 0⟩) (fun _ => by kernel_rfl) fun _ => ?_
        refine g_pubS 0 (by rfl) (Cells.mono (RepM.mono (rep := (fl chI)) le105) hcl74) hn75 ?_
        intro M128 A129 c130 le131 hv132 hA133
        subst hv132
        obtain ⟨r135, h136, h⟩ := bind_t h
        refine g_call (dst := some 55) (g := 21) (args := [.slice A2 l1.length c3, .slice A21 r17.length c22, .slice A129 ys70.length c130]) (by kernel_rfl) (by kernel_rfl) (fun v M' => ∃ (A1 : Option Addr) (c2 : Nat), v = .slice A1 r135.length c2 ∧ SlF (fl chP) 2 M' A1 r135 c2) (by intro w hst; exact renameP_calls hst.sat l1 A2 c3 (SlF.le hA4 (fun _ _ h => le131 _ _ (le105 _ _ (le69 _ _ (le20 _ _ (le11 _ _ h)))))) r17 A21 c22 (SlF.le hA23 (fun _ _ h => le131 _ _ (le105 _ _ (le69 _ _ h)))) ys70 A129 c130 hA133 h136) ?_
        rintro _ M137 le138 ⟨A139, c140, rfl, hA141⟩
        refine g_exec 1 [0, 5, 6, 7, 10] [] [] (fun _ => ⟨[(0, .v (.slice A2 l1.length c3)), (5, .v (.bool r8)), (6, .v (.slice A21 r17.length c22)), (7, .v (.slice A129 ys70.length c130)), (10, .v (.slice A139 r135.length c140))], [], [], 0⟩) (fun _ => by kernel_rfl) fun _ => ?_
        refine g_end (by kernel_rfl) ?_
        refine n_then ?_
        refine g_seq ?_
        refine g_region ?_
        refine g_exec 2 [0, 6, 7, 10, 57] [] [] (fun _ => ⟨[(0, .v (.slice A2 l1.length c3)), (6, .v (.slice A21 r17.length c22)), (7, .v (.slice A129 ys70.length c130)), (10, .v (.slice A139 r135.length c140)), (57, .v (.bool r8))], [], [], 0⟩) (fun _ => by kernel_rfl) fun _ => ?_
        refine g_bool 57 (r8) (by kernel_rfl) (fun hc144 => ?_) (fun hc144 => ?_)
        · replace h := if_t hc144 h
          refine g_exec 1 [0, 6, 7, 10, 57, 58] [] [] (fun _ => ⟨[(0, .v (.slice A2 l1.length c3)), (6, .v (.slice A21 r17.length c22)), (7, .v (.slice A129 ys70.length c130)), (10, .v (.slice A139 r135.length c140)), (57, .v (.bool true)), (58, .v (.slice A139 r135.length c140))], [], [], 0⟩) (fun _ => by kernel_rfl) fun _ => ?_
          obtain ⟨r146, h147, h⟩ := bind_t h
          refine g_call (dst := some 59) (g := 12) (args := [.slice A139 r135.length c140]) (by kernel_rfl) (by kernel_rfl) (fun v M' => ∃ (A1 : Option Addr) (c2 : Nat), v = .slice A1 r146.length c2 ∧ SlF (fl chI) 1 M' A1 r146 c2) (by intro w hst; exact varsP_calls hst.sat r135 A139 c140 hA141 h147) ?_
          rintro _ M148 le149 ⟨A150, c151, rfl, hA152⟩
          refine g_exec 4 [0, 6, 7, 10, 63] [] [] (fun _ => ⟨[(0, .v (.slice A2 l1.length c3)), (6, .v (.slice A21 r17.length c22)), (7, .v (.slice A129 ys70.length c130)), (10, .v (.slice A139 r135.length c140)), (63, .v (.bool ((r146.length : Int) == 0)))], [], [], 0⟩) (fun _ => by kernel_rfl) fun _ => ?_
          refine g_bool 63 (((r146.length : Int) == 0)) (by kernel_rfl) (fun hc154 => ?_) (fun hc154 => ?_)
          · replace h := if_t (eq_of_beq hc154) h
            refine g_exec 3 [0, 6, 7, 63, 64, 65, 66] [] [] (fun _ => ⟨[(0, .v (.slice A2 l1.length c3)), (6, .v (.slice A21 r17.length c22)), (7, .v (.slice A129 ys70.length c130)), (63, .v (.bool true)), (64, .v (.slice A139 r135.length c140)), (65, .v (.slice A129 ys70.length c130)), (66, .v (.slice A21 r17.length c22))], [], [], 0⟩) (fun _ => by kernel_rfl) fun _ => ?_
            obtain ⟨r156, h157, h⟩ := bind_t h
            refine g_call (dst := some 67) (g := 21) (args := [.slice A139 r135.length c140, .slice A129 ys70.length c130, .slice A21 r17.length c22]) (by kernel_rfl) (by kernel_rfl) (fun v M' => ∃ (A1 : Option Addr) (c2 : Nat), v = .slice A1 r156.length c2 ∧ SlF (fl chP) 2 M' A1 r156 c2) (by intro w hst; exact renameP_calls hst.sat r135 A139 c140 (SlF.le hA141 le149) ys70 A129 c130 (SlF.le hA133 (fun _ _ h => le149 _ _ (le138 _ _ h))) r17 A21 c22 (SlF.le hA23 (fun _ _ h => le149 _ _ (le138 _ _ (le131 _ _ (le105 _ _ (le69 _ _ h)))))) h157) ?_
            rintro _ M158 le159 ⟨A160, c161, rfl, hA162⟩
            refine g_exec 1 [0, 6, 7, 63, 67, 68] [] [] (fun _ => ⟨[(0, .v (.slice A2 l1.length c3)), (6, .v (.slice A21 r17.length c22)), (7, .v (.slice A129 ys70.length c130)), (63, .v (.bool true)), (67, .v (.slice A160 r156.length c161)), (68, .v (.slice A2 l1.length c3))], [], [], 0⟩) (fun _ => by kernel_rfl) fun _ => ?_
            obtain ⟨r164, h165, h⟩ := bind_t h
            refine g_call (dst := some 69) (g := 32) (args := [.slice A160 r156.length c161, .slice A2 l1.length c3]) (by kernel_rfl) (by kernel_rfl) (fun v _ => v = .bool r164) (by intro w hst; exact law10_same_calls k hst.sat r156 A160 c161 hA162 l1 A2 c3 (SlF.le hA4 (fun _ _ h => le159 _ _ (le149 _ _ (le138 _ _ (le131 _ _ (le105 _ _ (le69 _ _ (le20 _ _ (le11 _ _ h))))))))) h165) ?_
            rintro _ M166 le167 rfl
            refine g_exec 2 [0, 6, 7, 71] [] [] (fun _ => ⟨[(0, .v (.slice A2 l1.length c3)), (6, .v (.slice A21 r17.length c22)), (7, .v (.slice A129 ys70.length c130)), (71, .v (.bool r164))], [], [], 0⟩) (fun _ => by kernel_rfl) fun _ => ?_
            refine g_bool 71 (r164) (by kernel_rfl) (fun hc169 => ?_) (fun hc169 => ?_)
            · replace h := if_t hc169 h
              refine g_exec 3 [0, 71, 72, 73, 74] [] [] (fun _ => ⟨[(0, .v (.slice A2 l1.length c3)), (71, .v (.bool true)), (72, .v (.slice A2 l1.length c3)), (73, .v (.slice A129 ys70.length c130)), (74, .v (.slice A21 r17.length c22))], [], [], 0⟩) (fun _ => by kernel_rfl) fun _ => ?_
              obtain ⟨r171, h172, h⟩ := bind_t h
              refine g_call (dst := some 75) (g := 21) (args := [.slice A2 l1.length c3, .slice A129 ys70.length c130, .slice A21 r17.length c22]) (by kernel_rfl) (by kernel_rfl) (fun v M' => ∃ (A1 : Option Addr) (c2 : Nat), v = .slice A1 r171.length c2 ∧ SlF (fl chP) 2 M' A1 r171 c2) (by intro w hst; exact renameP_calls hst.sat l1 A2 c3 (SlF.le hA4 (fun _ _ h => le167 _ _ (le159 _ _ (le149 _ _ (le138 _ _ (le131 _ _ (le105 _ _ (le69 _ _ (le20 _ _ (le11 _ _ h)))))))))) ys70 A129 c130 (SlF.le hA133 (fun _ _ h => le167 _ _ (le159 _ _ (le149 _ _ (le138 _ _ h))))) r17 A21 c22 (SlF.le hA23 (fun _ _ h => le167 _ _ (le159 _ _ (le149 _ _ (le138 _ _ (le131 _ _ (le105 _ _ (le69 _ _ h)))))))) h172) ?_
              rintro _ M173 le174 ⟨A175, c176, rfl, hA177⟩
              refine g_exec 1 [0, 71, 75, 76] [] [] (fun _ => ⟨[(0, .v (.slice A2 l1.length c3)), (71, .v (.bool true)), (75, .v (.slice A175 r171.length c176)), (76, .v (.slice A2 l1.length c3))], [], [], 0⟩) (fun _ => by kernel_rfl) fun _ => ?_
              obtain ⟨r179, h180, h⟩ := bind_t h
              refine g_call (dst := some 77) (g := 32) (args := [.slice A175 r171.length c176, .slice A2 l1.length c3]) (by kernel_rfl) (by kernel_rfl) (fun v _ => v = .bool r179) (by intro w hst; exact law10_same_calls k hst.sat r171 A175 c176 hA177 l1 A2 c3 (SlF.le hA4 (fun _ _ h => le174 _ _ (le167 _ _ (le159 _ _ (le149 _ _ (le138 _ _ (le131 _ _ (le105 _ _ (le69 _ _ (le20 _ _ (le11 _ _ h))))))))))) h180) ?_
              rintro _ M181 le182 rfl
              refine g_exec 2 [0, 79] [] [] (fun _ => ⟨[(0, .v (.slice A2 l1.length c3)), (79, .v (.bool r179))], [], [], 0⟩) (fun _ => by kernel_rfl) fun _ => ?_
              refine g_bool 79 (r179) (by kernel_rfl) (fun hc184 => ?_) (fun hc184 => ?_)
              · replace h := if_t hc184 h
                refine g_exec 1 [0, 79, 80] [] [] (fun _ => ⟨[(0, .v (.slice A2 l1.length c3)), (79, .v (.bool true)), (80, .v (.slice A2 l1.length c3))], [], [], 0⟩) (fun _ => by kernel_rfl) fun _ => ?_
                obtain ⟨r186, h187, h⟩ := bind_t h
                refine g_call (dst := some 81) (g := 21) (args := [.slice A2 l1.length c3, .slice none 0 0, .slice none 0 0]) (by kernel_rfl) (by kernel_rfl) (fun v M' => ∃ (A1 : Option Addr) (c2 : Nat), v = .slice A1 r186.length c2 ∧ SlF (fl chP) 2 M' A1 r186 c2) (by intro w hst; exact renameP_calls hst.sat l1 A2 c3 (SlF.le hA4 (fun _ _ h => le182 _ _ (le174 _ _ (le167 _ _ (le159 _ _ (le149 _ _ (le138 _ _ (le131 _ _ (le105 _ _ (le69 _ _ (le20 _ _ (le11 _ _ h)))))))))))) ([] : List Int) none 0 SlF.nil ([] : List Int) none 0 SlF.nil h187) ?_
                rintro _ M188 le189 ⟨A190, c191, rfl, hA192⟩
                refine g_exec 1 [79, 81, 82] [] [] (fun _ => ⟨[(79, .v (.bool true)), (81, .v (.slice A190 r186.length c191)), (82, .v (.slice A2 l1.length c3))], [], [], 0⟩) (fun _ => by kernel_rfl) fun _ => ?_
                obtain ⟨r194, h195, h⟩ := bind_t h
                refine g_call (dst := some 83) (g := 32) (args := [.slice A190 r186.length c191, .slice A2 l1.length c3]) (by kernel_rfl) (by kernel_rfl) (fun v _ => v = .bool r194) (by intro w hst; exact law10_same_calls k hst.sat r186 A190 c191 hA192 l1 A2 c3 (SlF.le hA4 (fun _ _ h => le189 _ _ (le182 _ _ (le174 _ _ (le167 _ _ (le159 _ _ (le149 _ _ (le138 _ _ (le131 _ _ (le105 _ _ (le69 _ _ (le20 _ _ (le11 _ _ h))))))))))))) h195) ?_
                rintro _ M196 le197 rfl
                refine g_exec 2 [4] [] [] (fun _ => ⟨[(4, .v (.bool r194))], [], [], 0⟩) (fun _ => by kernel_rfl) fun _ => ?_
                refine g_end (by kernel_rfl) ?_
                refine n_then ?_
                refine g_ret ?_
                obtain rfl := some_inj h
                exact n_post (.bool r194) (by kernel_rfl) rfl
              · replace h := if_f (ne_t hc184) h
                refine g_exec 6 [4] [] [] (fun _ => ⟨[(4, .v (.bool false))], [], [], 0⟩) (fun _ => by kernel_rfl) fun _ => ?_
                refine g_end (by kernel_rfl) ?_
                refine n_then ?_
                refine g_ret ?_
                obtain rfl := some_inj h
                exact n_post (.bool false) (by kernel_rfl) rfl
            · replace h := if_f (ne_t hc169) h
              refine g_exec 14 [4] [] [] (fun _ => ⟨[(4, .v (.bool false))], [], [], 0⟩) (fun _ => by kernel_rfl) fun _ => ?_
              refine g_end (by kernel_rfl) ?_
              refine n_then ?_
              refine g_ret ?_
              obtain rfl := some_inj h
              exact n_post (.bool false) (by kernel_rfl) rfl
          · replace h := if_f (ne_of_beq_false hc154) h
            refine g_exec 22 [4] [] [] (fun _ => ⟨[(4, .v (.bool false))], [], [], 0⟩) (fun _ => by kernel_rfl) fun _ => ?_
            refine g_end (by kernel_rfl) ?_
            refine n_then ?_
            refine g_ret ?_
            obtain rfl := some_inj h
            exact n_post (.bool false) (by kernel_rfl) rfl
        · replace h := if_f (ne_t hc144) h
          refine g_exec 28 [4] [] [] (fun _ => ⟨[(4, .v (.bool false))], [], [], 0⟩) (fun _ => by kernel_rfl) fun _ => ?_
          refine g_end (by kernel_rfl) ?_
          refine n_then ?_
          refine g_ret ?_
          obtain rfl := some_inj h
          exact n_post (.bool false) (by kernel_rfl) rfl
end Go.Ch
