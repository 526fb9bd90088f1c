import Derived.Test.YtpnkncinmoogpaaGreatDoorTAdapt
set_option linter.unusedVariables false
namespace Go.Ch
open Go Go.Eng Go.Proofs
def law10_AtomTells_l1 (r47 : (List Int)) (r56 : (List Int)) : Nat → Int → Option ((Bool) ⊕ (Unit))
  | 0, _ => none
  | q + 1, i92 => (if i92 < (r47.length : Int) then ((idx r47 i92)).bind fun x102 => ((idx r56 i92)).bind fun x108 => (if x102 = x108 then law10_AtomTells_l1 r47 r56 q (IntKind.i64.wrap (i92 + 1)) else some (.inl false)) else some (.inr ()))
def law10_AtomTells_l2 (r65 : (List Int)) (r74 : (List Int)) : Nat → Int → Option ((Bool) ⊕ (Unit))
  | 0, _ => none
  | q + 1, i120 => (if i120 < (r65.length : Int) then ((idx r65 i120)).bind fun x130 => ((idx r74 i120)).bind fun x136 => (if x130 = x136 then law10_AtomTells_l2 r65 r74 q (IntKind.i64.wrap (i120 + 1)) else some (.inl false)) else some (.inr ()))
def law10_AtomTells (k : Nat) (l1 : List (Int × Int)) (from5 : List Int) (to9 : List Int) (a13 : Int) (n14 : Int) (names15 : List ByteArray) : Option (Bool) := ((exP)).bind fun r21 => (if r21 = true then ((law10_refPairs k l1)).bind fun r30 => ((varsP l1)).bind fun r39 => ((law10_refAtoms k r39)).bind fun r47 => ((ref10_Vars k r30)).bind fun r56 => ((pointsP l1)).bind fun r65 => ((ref10_Points k r30)).bind fun r74 => (if (r47.length : Int) = (r56.length : Int) then (if (r65.length : Int) = (r74.length : Int) then (law10_AtomTells_l1 r47 r56 k 0).bind (orOn some (fun _ => (law10_AtomTells_l2 r65 r74 k 0).bind (orOn some (fun _ => ((normP l1)).bind fun r146 => ((ref10_Norm k r30)).bind fun r154 => ((law10_samePairs k r146 r154)).bind fun r162 => (if r162 = true then ((shiftP l1 n14)).bind fun r171 => ((ref10_Shift k r30 n14)).bind fun r179 => ((law10_samePairs k r171 r179)).bind fun r187 => (if r187 = true then ((renameP l1 from5 to9)).bind fun r196 => ((law10_refAtoms k from5)).bind fun r204 => ((law10_refAtoms k to9)).bind fun r212 => ((ref10_Rename k r30 r204 r212)).bind fun r220 => ((law10_samePairs k r196 r220)).bind fun r228 => (if r228 = true then (if r21 = true then ((pointP n14)).bind fun r238 => ((ref10_Point n14)).bind fun r243 => (if r238 = r243 then ((pointOfP a13)).bind fun r250 => ((ref10_PointOf a13)).bind fun r255 => (if r250 = r255 then ((isPointP a13)).bind fun r262 => (if r262 = (decide (a13 < 0)) then ((textP1 names15 a13)).bind fun r269 => ((ref10_Text k names15 a13)).bind fun r274 => (if (r269.toList == r274.toList) = true then ((textsP1 names15 l1)).bind fun r281 => ((ref10_Texts k names15 r30)).bind fun r286 => some (r281.toList == r286.toList) else some false) else some false) else some false) else some false) else some false) else some false) else some false) else some false))))) else some false) else some false) else some false)
theorem law10_AtomTells_calls (k : Nat) {M : Mem} {w : World} (hM : Sat M w) (hT : TabW w) (l1 : List (Int × Int)) (A2 : Option Addr) (c3 : Nat) (hA4 : SlF (fl chP) 2 M A2 l1 c3) (from5 : List Int) (A6 : Option Addr) (c7 : Nat) (hA8 : SlF (fl chI) 1 M A6 from5 c7) (to9 : List Int) (A10 : Option Addr) (c11 : Nat) (hA12 : SlF (fl chI) 1 M A10 to9 c11) (a13 : Int) (n14 : Int) (names15 : List ByteArray) (A16 : Option Addr) (c17 : Nat) (hA18 : SlF (fl chS) 1 M A16 names15 c17) {r : Bool} (h : law10_AtomTells k l1 from5 to9 a13 n14 names15 = some r) : Ct Tryz.prog 3 [.slice A2 l1.length c3, .slice A6 from5.length c7, .slice A10 to9.length c11, .int .i64 a13, .int .i64 n14, .slice A16 names15.length c17] [] w M (fun v _ => v = .bool r) := by
  unfold law10_AtomTells at h
  refine enter (n := 147) Tryz.func3 rfl rfl _ (by kernel_rfl) hM ?_
  refine g_seq ?_
  refine g_region ?_
  refine g_exec 1 [0, 1, 2, 3, 4, 5] [] [] (fun _ => ⟨[(0, .v (.slice A2 l1.length c3)), (1, .v (.slice A6 from5.length c7)), (2, .v (.slice A10 to9.length c11)), (3, .v (.int .i64 a13)), (4, .v (.int .i64 n14)), (5, .v (.slice A16 names15.length c17))], [], [], 0⟩) (fun _ => by kernel_rfl) fun _ => ?_
  refine g_end (by kernel_rfl) ?_
  refine n_then ?_
  refine g_seq ?_
  refine g_region ?_
  obtain ⟨r21, h22, h⟩ := bind_t h
  refine g_call (dst := some 21) (g := 9) (args := []) (by kernel_rfl) (by kernel_rfl) (fun v _ => v = .bool r21) (by intro w hst; exact exP_calls hst.sat (hT.ext hst.ext0)  h22) ?_
  rintro _ M23 le24 rfl
  refine g_exec 1 [0, 1, 2, 3, 4, 5, 13] [] [] (fun _ => ⟨[(0, .v (.slice A2 l1.length c3)), (1, .v (.slice A6 from5.length c7)), (2, .v (.slice A10 to9.length c11)), (3, .v (.int .i64 a13)), (4, .v (.int .i64 n14)), (5, .v (.slice A16 names15.length c17)), (13, .v (.bool r21))], [], [], 0⟩) (fun _ => by kernel_rfl) fun _ => ?_
  refine g_end (by kernel_rfl) ?_
  refine n_then ?_
  refine g_seq ?_
  refine g_seq ?_
  refine g_region ?_
  refine g_exec 2 [0, 1, 2, 3, 4, 5, 13, 23] [] [] (fun _ => ⟨[(0, .v (.slice A2 l1.length c3)), (1, .v (.slice A6 from5.length c7)), (2, .v (.slice A10 to9.length c11)), (3, .v (.int .i64 a13)), (4, .v (.int .i64 n14)), (5, .v (.slice A16 names15.length c17)), (13, .v (.bool r21)), (23, .v (.bool (!r21)))], [], [], 0⟩) (fun _ => by kernel_rfl) fun _ => ?_
  refine g_end (by kernel_rfl) ?_
  refine n_then ?_
  refine g_cond (!r21) (by kernel_rfl) (fun hc27 => ?_) (fun hc27 => ?_)
  · replace h := if_f (ne_t (bnot_t hc27)) h
    refine g_seq ?_
    refine g_region ?_
    refine g_exec 1 [12] [] [] (fun _ => ⟨[(12, .v (.bool false))], [], [], 0⟩) (fun _ => by kernel_rfl) fun _ => ?_
    refine g_end (by kernel_rfl) ?_
    refine n_then ?_
    refine g_ret ?_
    refine n_then_ret ?_
    obtain rfl := some_inj h
    exact n_post (.bool false) (by kernel_rfl) rfl
  · replace h := if_t (bnot_f hc27) h
    refine g_skip ?_
    refine n_then ?_
    refine g_seq ?_
    refine g_region ?_
    refine g_exec 1 [0, 1, 2, 3, 4, 5, 13, 24] [] [] (fun _ => ⟨[(0, .v (.slice A2 l1.length c3)), (1, .v (.slice A6 from5.length c7)), (2, .v (.slice A10 to9.length c11)), (3, .v (.int .i64 a13)), (4, .v (.int .i64 n14)), (5, .v (.slice A16 names15.length c17)), (13, .v (.bool r21)), (24, .v (.slice A2 l1.length c3))], [], [], 0⟩) (fun _ => by kernel_rfl) fun _ => ?_
    obtain ⟨r30, h31, h⟩ := bind_t h
    refine g_call (dst := some 25) (g := 10) (args := [.slice A2 l1.length c3]) (by kernel_rfl) (by kernel_rfl) (fun v M' => ∃ (A1 : Option Addr) (c2 : Nat), v = .slice A1 r30.length c2 ∧ SlF (fl chP) 2 M' A1 r30 c2) (by intro w hst; exact law10_refPairs_calls k hst.sat l1 A2 c3 (SlF.le hA4 le24) h31) ?_
    rintro _ M32 le33 ⟨A34, c35, rfl, hA36⟩
    refine g_exec 1 [0, 1, 2, 3, 4, 5, 13, 14] [] [] (fun _ => ⟨[(0, .v (.slice A2 l1.length c3)), (1, .v (.slice A6 from5.length c7)), (2, .v (.slice A10 to9.length c11)), (3, .v (.int .i64 a13)), (4, .v (.int .i64 n14)), (5, .v (.slice A16 names15.length c17)), (13, .v (.bool r21)), (14, .v (.slice A34 r30.length c35))], [], [], 0⟩) (fun _ => by kernel_rfl) fun _ => ?_
    refine g_end (by kernel_rfl) ?_
    refine n_then ?_
    refine g_seq ?_
    refine g_region ?_
    refine g_exec 1 [0, 1, 2, 3, 4, 5, 13, 14, 26] [] [] (fun _ => ⟨[(0, .v (.slice A2 l1.length c3)), (1, .v (.slice A6 from5.length c7)), (2, .v (.slice A10 to9.length c11)), (3, .v (.int .i64 a13)), (4, .v (.int .i64 n14)), (5, .v (.slice A16 names15.length c17)), (13, .v (.bool r21)), (14, .v (.slice A34 r30.length c35)), (26, .v (.slice A2 l1.length c3))], [], [], 0⟩) (fun _ => by kernel_rfl) fun _ => ?_
    obtain ⟨r39, h40, h⟩ := bind_t h
    refine g_call (dst := some 27) (g := 12) (args := [.slice A2 l1.length c3]) (by kernel_rfl) (by kernel_rfl) (fun v M' => ∃ (A1 : Option Addr) (c2 : Nat), v = .slice A1 r39.length c2 ∧ SlF (fl chI) 1 M' A1 r39 c2) (by intro w hst; exact varsP_calls hst.sat l1 A2 c3 (SlF.le hA4 (fun _ _ h => le33 _ _ (le24 _ _ h))) h40) ?_
    rintro _ M41 le42 ⟨A43, c44, rfl, hA45⟩
    obtain ⟨r47, h48, h⟩ := bind_t h
    refine g_call (dst := some 28) (g := 11) (args := [.slice A43 r39.length c44]) (by kernel_rfl) (by kernel_rfl) (fun v M' => ∃ (A1 : Option Addr) (c2 : Nat), v = .slice A1 r47.length c2 ∧ SlF (fl chI) 1 M' A1 r47 c2) (by intro w hst; exact law10_refAtoms_calls k hst.sat r39 A43 c44 hA45 h48) ?_
    rintro _ M49 le50 ⟨A51, c52, rfl, hA53⟩
    refine g_exec 1 [0, 1, 2, 3, 4, 5, 13, 14, 15] [] [] (fun _ => ⟨[(0, .v (.slice A2 l1.length c3)), (1, .v (.slice A6 from5.length c7)), (2, .v (.slice A10 to9.length c11)), (3, .v (.int .i64 a13)), (4, .v (.int .i64 n14)), (5, .v (.slice A16 names15.length c17)), (13, .v (.bool r21)), (14, .v (.slice A34 r30.length c35)), (15, .v (.slice A51 r47.length c52))], [], [], 0⟩) (fun _ => by kernel_rfl) fun _ => ?_
    refine g_end (by kernel_rfl) ?_
    refine n_then ?_
    refine g_seq ?_
    refine g_region ?_
    refine g_exec 1 [0, 1, 2, 3, 4, 5, 13, 14, 15, 29] [] [] (fun _ => ⟨[(0, .v (.slice A2 l1.length c3)), (1, .v (.slice A6 from5.length c7)), (2, .v (.slice A10 to9.length c11)), (3, .v (.int .i64 a13)), (4, .v (.int .i64 n14)), (5, .v (.slice A16 names15.length c17)), (13, .v (.bool r21)), (14, .v (.slice A34 r30.length c35)), (15, .v (.slice A51 r47.length c52)), (29, .v (.slice A34 r30.length c35))], [], [], 0⟩) (fun _ => by kernel_rfl) fun _ => ?_
    obtain ⟨r56, h57, h⟩ := bind_t h
    refine g_call (dst := some 30) (g := 13) (args := [.slice A34 r30.length c35]) (by kernel_rfl) (by kernel_rfl) (fun v M' => ∃ (A1 : Option Addr) (c2 : Nat), v = .slice A1 r56.length c2 ∧ SlF (fl chI) 1 M' A1 r56 c2) (by intro w hst; exact ref10_Vars_calls k hst.sat r30 A34 c35 (SlF.le hA36 (fun _ _ h => le50 _ _ (le42 _ _ h))) h57) ?_
    rintro _ M58 le59 ⟨A60, c61, rfl, hA62⟩
    refine g_exec 1 [0, 1, 2, 3, 4, 5, 13, 14, 15, 16] [] [] (fun _ => ⟨[(0, .v (.slice A2 l1.length c3)), (1, .v (.slice A6 from5.length c7)), (2, .v (.slice A10 to9.length c11)), (3, .v (.int .i64 a13)), (4, .v (.int .i64 n14)), (5, .v (.slice A16 names15.length c17)), (13, .v (.bool r21)), (14, .v (.slice A34 r30.length c35)), (15, .v (.slice A51 r47.length c52)), (16, .v (.slice A60 r56.length c61))], [], [], 0⟩) (fun _ => by kernel_rfl) fun _ => ?_
    refine g_end (by kernel_rfl) ?_
    refine n_then ?_
    refine g_seq ?_
    refine g_region ?_
    refine g_exec 1 [0, 1, 2, 3, 4, 5, 13, 14, 15, 16, 31] [] [] (fun _ => ⟨[(0, .v (.slice A2 l1.length c3)), (1, .v (.slice A6 from5.length c7)), (2, .v (.slice A10 to9.length c11)), (3, .v (.int .i64 a13)), (4, .v (.int .i64 n14)), (5, .v (.slice A16 names15.length c17)), (13, .v (.bool r21)), (14, .v (.slice A34 r30.length c35)), (15, .v (.slice A51 r47.length c52)), (16, .v (.slice A60 r56.length c61)), (31, .v (.slice A2 l1.length c3))], [], [], 0⟩) (fun _ => by kernel_rfl) fun _ => ?_
    obtain ⟨r65, h66, h⟩ := bind_t h
    refine g_call (dst := some 32) (g := 14) (args := [.slice A2 l1.length c3]) (by kernel_rfl) (by kernel_rfl) (fun v M' => ∃ (A1 : Option Addr) (c2 : Nat), v = .slice A1 r65.length c2 ∧ SlF (fl chI) 1 M' A1 r65 c2) (by intro w hst; exact pointsP_calls hst.sat l1 A2 c3 (SlF.le hA4 (fun _ _ h => le59 _ _ (le50 _ _ (le42 _ _ (le33 _ _ (le24 _ _ h)))))) h66) ?_
    rintro _ M67 le68 ⟨A69, c70, rfl, hA71⟩
    refine g_exec 1 [0, 1, 2, 3, 4, 5, 13, 14, 15, 16, 17] [] [] (fun _ => ⟨[(0, .v (.slice A2 l1.length c3)), (1, .v (.slice A6 from5.length c7)), (2, .v (.slice A10 to9.length c11)), (3, .v (.int .i64 a13)), (4, .v (.int .i64 n14)), (5, .v (.slice A16 names15.length c17)), (13, .v (.bool r21)), (14, .v (.slice A34 r30.length c35)), (15, .v (.slice A51 r47.length c52)), (16, .v (.slice A60 r56.length c61)), (17, .v (.slice A69 r65.length c70))], [], [], 0⟩) (fun _ => by kernel_rfl) fun _ => ?_
    refine g_end (by kernel_rfl) ?_
    refine n_then ?_
    refine g_seq ?_
    refine g_region ?_
    refine g_exec 1 [0, 1, 2, 3, 4, 5, 13, 14, 15, 16, 17, 33] [] [] (fun _ => ⟨[(0, .v (.slice A2 l1.length c3)), (1, .v (.slice A6 from5.length c7)), (2, .v (.slice A10 to9.length c11)), (3, .v (.int .i64 a13)), (4, .v (.int .i64 n14)), (5, .v (.slice A16 names15.length c17)), (13, .v (.bool r21)), (14, .v (.slice A34 r30.length c35)), (15, .v (.slice A51 r47.length c52)), (16, .v (.slice A60 r56.length c61)), (17, .v (.slice A69 r65.length c70)), (33, .v (.slice A34 r30.length c35))], [], [], 0⟩) (fun _ => by kernel_rfl) fun _ => ?_
    obtain ⟨r74, h75, h⟩ := bind_t h
    refine g_call (dst := some 34) (g := 15) (args := [.slice A34 r30.length c35]) (by kernel_rfl) (by kernel_rfl) (fun v M' => ∃ (A1 : Option Addr) (c2 : Nat), v = .slice A1 r74.length c2 ∧ SlF (fl chI) 1 M' A1 r74 c2) (by intro w hst; exact ref10_Points_calls k hst.sat r30 A34 c35 (SlF.le hA36 (fun _ _ h => le68 _ _ (le59 _ _ (le50 _ _ (le42 _ _ h))))) h75) ?_
    rintro _ M76 le77 ⟨A78, c79, rfl, hA80⟩
    refine g_exec 1 [0, 1, 2, 3, 4, 5, 13, 14, 15, 16, 17, 18] [] [] (fun _ => ⟨[(0, .v (.slice A2 l1.length c3)), (1, .v (.slice A6 from5.length c7)), (2, .v (.slice A10 to9.length c11)), (3, .v (.int .i64 a13)), (4, .v (.int .i64 n14)), (5, .v (.slice A16 names15.length c17)), (13, .v (.bool r21)), (14, .v (.slice A34 r30.length c35)), (15, .v (.slice A51 r47.length c52)), (16, .v (.slice A60 r56.length c61)), (17, .v (.slice A69 r65.length c70)), (18, .v (.slice A78 r74.length c79))], [], [], 0⟩) (fun _ => by kernel_rfl) fun _ => ?_
    refine g_end (by kernel_rfl) ?_
    refine n_then ?_
    refine g_seq ?_
    refine g_seq ?_
    refine g_region ?_
    refine g_exec 6 [0, 1, 2, 3, 4, 5, 13, 14, 15, 16, 17, 18, 40] [] [] (fun _ => ⟨[(0, .v (.slice A2 l1.length c3)), (1, .v (.slice A6 from5.length c7)), (2, .v (.slice A10 to9.length c11)), (3, .v (.int .i64 a13)), (4, .v (.int .i64 n14)), (5, .v (.slice A16 names15.length c17)), (13, .v (.bool r21)), (14, .v (.slice A34 r30.length c35)), (15, .v (.slice A51 r47.length c52)), (16, .v (.slice A60 r56.length c61)), (17, .v (.slice A69 r65.length c70)), (18, .v (.slice A78 r74.length c79)), (40, .v (.bool ((r47.length : Int) != (r56.length : Int))))], [], [], 0⟩) (fun _ => by kernel_rfl) fun _ => ?_
    refine g_bool 40 (((r47.length : Int) != (r56.length : Int))) (by kernel_rfl) (fun hc83 => ?_) (fun hc83 => ?_)
    · replace h := if_f (bne_t hc83) h
      refine g_exec 6 [0, 1, 2, 3, 4, 5, 13, 14, 15, 16, 17, 18, 46] [] [] (fun _ => ⟨[(0, .v (.slice A2 l1.length c3)), (1, .v (.slice A6 from5.length c7)), (2, .v (.slice A10 to9.length c11)), (3, .v (.int .i64 a13)), (4, .v (.int .i64 n14)), (5, .v (.slice A16 names15.length c17)), (13, .v (.bool r21)), (14, .v (.slice A34 r30.length c35)), (15, .v (.slice A51 r47.length c52)), (16, .v (.slice A60 r56.length c61)), (17, .v (.slice A69 r65.length c70)), (18, .v (.slice A78 r74.length c79)), (46, .v (.bool true))], [], [], 0⟩) (fun _ => by kernel_rfl) fun _ => ?_
      refine g_end (by kernel_rfl) ?_
      refine n_then ?_
      refine g_cond true (by kernel_rfl) (fun hc => ?_) (fun hc => ?_)
      · refine g_seq ?_
        refine g_region ?_
        refine g_exec 1 [12] [] [] (fun _ => ⟨[(12, .v (.bool false))], [], [], 0⟩) (fun _ => by kernel_rfl) fun _ => ?_
        refine g_end (by kernel_rfl) ?_
        refine n_then ?_
        refine g_ret ?_
        refine n_then_ret ?_
        obtain rfl := some_inj h
        exact n_post (.bool false) (by kernel_rfl) rfl
      · cases hc
    · replace h := if_t (bne_f hc83) h
      refine g_exec 6 [0, 1, 2, 3, 4, 5, 13, 14, 15, 16, 17, 18, 46] [] [] (fun _ => ⟨[(0, .v (.slice A2 l1.length c3)), (1, .v (.slice A6 from5.length c7)), (2, .v (.slice A10 to9.length c11)), (3, .v (.int .i64 a13)), (4, .v (.int .i64 n14)), (5, .v (.slice A16 names15.length c17)), (13, .v (.bool r21)), (14, .v (.slice A34 r30.length c35)), (15, .v (.slice A51 r47.length c52)), (16, .v (.slice A60 r56.length c61)), (17, .v (.slice A69 r65.length c70)), (18, .v (.slice A78 r74.length c79)), (46, .v (.bool ((r65.length : Int) != (r74.length : Int))))], [], [], 0⟩) (fun _ => by kernel_rfl) fun _ => ?_
      refine g_end (by kernel_rfl) ?_
      refine n_then ?_
      refine g_cond (((r65.length : Int) != (r74.length : Int))) (by kernel_rfl) (fun hc87 => ?_) (fun hc87 => ?_)
      · replace h := if_f (bne_t hc87) h
        refine g_seq ?_
        refine g_region ?_
        refine g_exec 1 [12] [] [] (fun _ => ⟨[(12, .v (.bool false))], [], [], 0⟩) (fun _ => by kernel_rfl) fun _ => ?_
        refine g_end (by kernel_rfl) ?_
        refine n_then ?_
        refine g_ret ?_
        refine n_then_ret ?_
        obtain rfl := some_inj h
        exact n_post (.bool false) (by kernel_rfl) rfl
      · replace h := if_t (bne_f hc87) h
        refine g_skip ?_
        refine n_then ?_
        refine g_seq ?_
        refine g_seq ?_
        refine g_region ?_
        refine g_exec 1 [0, 1, 2, 3, 4, 5, 13, 14, 15, 16, 17, 18, 19] [] [] (fun _ => ⟨[(0, .v (.slice A2 l1.length c3)), (1, .v (.slice A6 from5.length c7)), (2, .v (.slice A10 to9.length c11)), (3, .v (.int .i64 a13)), (4, .v (.int .i64 n14)), (5, .v (.slice A16 names15.length c17)), (13, .v (.bool r21)), (14, .v (.slice A34 r30.length c35)), (15, .v (.slice A51 r47.length c52)), (16, .v (.slice A60 r56.length c61)), (17, .v (.slice A69 r65.length c70)), (18, .v (.slice A78 r74.length c79)), (19, .v (.int .i64 0))], [], [], 0⟩) (fun _ => by kernel_rfl) fun _ => ?_
        refine g_end (by kernel_rfl) ?_
        refine n_then ?_
        refine g_fin [0, 1, 2, 3, 4, 5, 13, 14, 15, 16, 17, 18, 19] [] [] ⟨[(0, .v (.slice A2 l1.length c3)), (1, .v (.slice A6 from5.length c7)), (2, .v (.slice A10 to9.length c11)), (3, .v (.int .i64 a13)), (4, .v (.int .i64 n14)), (5, .v (.slice A16 names15.length c17)), (13, .v (.bool r21)), (14, .v (.slice A34 r30.length c35)), (15, .v (.slice A51 r47.length c52)), (16, .v (.slice A60 r56.length c61)), (17, .v (.slice A69 r65.length c70)), (18, .v (.slice A78 r74.length c79)), (19, .v (.int .i64 0))], [], [], 0⟩ (by kernel_rfl) ?_
        obtain ⟨t96, h99, h⟩ := bind_t h
        refine g_blockJ (fun M97 s => s = ⟨[(0, .v (.slice A2 l1.length c3)), (1, .v (.slice A6 from5.length c7)), (2, .v (.slice A10 to9.length c11)), (3, .v (.int .i64 a13)), (4, .v (.int .i64 n14)), (5, .v (.slice A16 names15.length c17)), (13, .v (.bool r21)), (14, .v (.slice A34 r30.length c35)), (17, .v (.slice A69 r65.length c70)), (18, .v (.slice A78 r74.length c79))], [], [], 0⟩ ∧ .inr () = t96 ∧ (∀ a u, M76 a = some u → M97 a = some u)) ?_ ?_
        · refine g_while (ι := Nat) (fun q93 M90 s => ∃ (i92 : Int), s = ⟨[(0, .v (.slice A2 l1.length c3)), (1, .v (.slice A6 from5.length c7)), (2, .v (.slice A10 to9.length c11)), (3, .v (.int .i64 a13)), (4, .v (.int .i64 n14)), (5, .v (.slice A16 names15.length c17)), (13, .v (.bool r21)), (14, .v (.slice A34 r30.length c35)), (15, .v (.slice A51 r47.length c52)), (16, .v (.slice A60 r56.length c61)), (17, .v (.slice A69 r65.length c70)), (18, .v (.slice A78 r74.length c79)), (19, .v (.int .i64 i92))], [], [], 0⟩ ∧ law10_AtomTells_l1 r47 r56 q93 i92 = some t96 ∧ (∀ a u, M76 a = some u → M90 a = some u)) (fun q93 => q93) k ⟨0, rfl, h99, (fun _ _ h => h)⟩ ?_
          rintro q93 M90 _ ⟨i92, rfl, hl95, le91⟩
          obtain _ | q93 := q93
          · cases hl95
          · rw [law10_AtomTells_l1] at hl95
            refine g_seq ?_
            refine g_seq ?_
            refine g_region ?_
            refine g_exec 4 [0, 1, 2, 3, 4, 5, 13, 14, 15, 16, 17, 18, 19, 50] [] [] (fun _ => ⟨[(0, .v (.slice A2 l1.length c3)), (1, .v (.slice A6 from5.length c7)), (2, .v (.slice A10 to9.length c11)), (3, .v (.int .i64 a13)), (4, .v (.int .i64 n14)), (5, .v (.slice A16 names15.length c17)), (13, .v (.bool r21)), (14, .v (.slice A34 r30.length c35)), (15, .v (.slice A51 r47.length c52)), (16, .v (.slice A60 r56.length c61)), (17, .v (.slice A69 r65.length c70)), (18, .v (.slice A78 r74.length c79)), (19, .v (.int .i64 i92)), (50, .v (.bool (decide (i92 < (r47.length : Int)))))], [], [], 0⟩) (fun _ => by kernel_rfl) fun _ => ?_
            refine g_end (by kernel_rfl) ?_
            refine n_then ?_
            refine g_cond (decide (i92 < (r47.length : Int))) (by kernel_rfl) (fun hc101 => ?_) (fun hc101 => ?_)
            · replace hl95 := if_t (of_decide_eq_true hc101) hl95
              refine g_skip ?_
              refine n_then ?_
              refine g_seq ?_
              refine g_block ?_
              refine g_seq ?_
              refine d_begin (by kernel_rfl) [] [] 9 (by kernel_rfl) ?_
              refine dx_exec (fuel := 5) [] [0, 1, 4, 5] [0, 1, 2, 3, 4, 5, 13, 14, 15, 16, 17, 18, 19, 53, 54, 57, 58] [] [] [true, true, false, false, true, true, false, false, false] ⟨[(0, .v (.slice A2 l1.length c3)), (1, .v (.slice A6 from5.length c7)), (2, .v (.slice A10 to9.length c11)), (3, .v (.int .i64 a13)), (4, .v (.int .i64 n14)), (5, .v (.slice A16 names15.length c17)), (13, .v (.bool r21)), (14, .v (.slice A34 r30.length c35)), (15, .v (.slice A51 r47.length c52)), (16, .v (.slice A60 r56.length c61)), (17, .v (.slice A69 r65.length c70)), (18, .v (.slice A78 r74.length c79)), (19, .v (.int .i64 i92)), (53, .v (.slice A51 r47.length c52)), (54, .v (.int .i64 i92)), (57, .v (.slice A60 r56.length c61)), (58, .v (.int .i64 i92))], [], [], 0⟩ (by kernel_rfl) (fun _ _ h => h) (by kernel_rfl) (by kernel_rfl) ?_ rfl
              obtain ⟨x102, h103, hl95⟩ := bind_t hl95
              obtain ⟨b104, o105, _, hA106, rfl, hc107⟩ := SlF.at hA53 h103
              refine dx_yld (fuel := 4) (i := 2) [] [true, true, true, false, true, true, false, false, false] (by kernel_rfl) (fun _ _ h => h) (by kernel_rfl) (y_indexA (dst := some 55) (A := A51) (len := r47.length) (kk := .i64) (ii := i92) (sz := 1) (by kernel_rfl) hA106 (xs := r47) rfl h103) (by kernel_rfl) (by kernel_rfl) ?_ rfl
              refine dx_yld (fuel := 3) (i := 3) [] [true, true, true, true, true, true, false, false, false] (by kernel_rfl) (fun _ _ h => h) (by kernel_rfl) (y_load1 (dst := some 56) (ad := ⟨b104, o105 + (i92).toNat * 1, none⟩) (sz := 1) (by kernel_rfl) (v := .int .i64 x102) (le91 _ _ (le77 _ _ (le68 _ _ (le59 _ _ (hc107 0 _ rfl)))))) (by kernel_rfl) (by kernel_rfl) ?_ rfl
              obtain ⟨x108, h109, hl95⟩ := bind_t hl95
              obtain ⟨b110, o111, _, hA112, rfl, hc113⟩ := SlF.at hA62 h109
              refine dx_yld (fuel := 2) (i := 6) [] [true, true, true, true, true, true, true, false, false] (by kernel_rfl) (fun _ _ h => h) (by kernel_rfl) (y_indexA (dst := some 59) (A := A60) (len := r56.length) (kk := .i64) (ii := i92) (sz := 1) (by kernel_rfl) hA112 (xs := r56) rfl h109) (by kernel_rfl) (by kernel_rfl) ?_ rfl
              refine dx_yld (fuel := 1) (i := 7) [] [true, true, true, true, true, true, true, true, false] (by kernel_rfl) (fun _ _ h => h) (by kernel_rfl) (y_load1 (dst := some 60) (ad := ⟨b110, o111 + (i92).toNat * 1, none⟩) (sz := 1) (by kernel_rfl) (v := .int .i64 x108) (le91 _ _ (le77 _ _ (le68 _ _ (hc113 0 _ rfl))))) (by kernel_rfl) (by kernel_rfl) ?_ rfl
              refine dx_exec (fuel := 0) [] [8] [0, 1, 2, 3, 4, 5, 13, 14, 15, 16, 17, 18, 19, 61] [] [] [true, true, true, true, true, true, true, true, true] ⟨[(0, .v (.slice A2 l1.length c3)), (1, .v (.slice A6 from5.length c7)), (2, .v (.slice A10 to9.length c11)), (3, .v (.int .i64 a13)), (4, .v (.int .i64 n14)), (5, .v (.slice A16 names15.length c17)), (13, .v (.bool r21)), (14, .v (.slice A34 r30.length c35)), (15, .v (.slice A51 r47.length c52)), (16, .v (.slice A60 r56.length c61)), (17, .v (.slice A69 r65.length c70)), (18, .v (.slice A78 r74.length c79)), (19, .v (.int .i64 i92)), (61, .v (.bool (x102 != x108)))], [], [], 0⟩ (by kernel_rfl) (fun _ _ h => h) (by kernel_rfl) (by kernel_rfl) ?_ rfl
              refine d_end (by kernel_rfl) ?_
              refine n_then ?_
              refine g_cond ((x102 != x108)) (by kernel_rfl) (fun hc114 => ?_) (fun hc114 => ?_)
              · replace hl95 := if_f (bne_t hc114) hl95
                refine g_seq ?_
                refine g_region ?_
                refine g_exec 1 [12] [] [] (fun _ => ⟨[(12, .v (.bool false))], [], [], 0⟩) (fun _ => by kernel_rfl) fun _ => ?_
                refine g_end (by kernel_rfl) ?_
                refine n_then ?_
                refine g_ret ?_
                refine n_block_ret ?_
                refine n_then_ret ?_
                refine n_then_ret ?_
                refine n_block_ret ?_
                refine n_qj ?_
                refine n_then_ret ?_
                obtain rfl := some_inj hl95
                replace h := orOn_l h
                obtain rfl := some_inj h
                exact n_post (.bool false) (by kernel_rfl) rfl
              · replace hl95 := if_t (bne_f hc114) hl95
                refine g_skip ?_
                refine n_block ?_
                refine n_then ?_
                refine g_region ?_
                refine g_exec 3 [0, 1, 2, 3, 4, 5, 13, 14, 15, 16, 17, 18, 19] [] [] (fun _ => ⟨[(0, .v (.slice A2 l1.length c3)), (1, .v (.slice A6 from5.length c7)), (2, .v (.slice A10 to9.length c11)), (3, .v (.int .i64 a13)), (4, .v (.int .i64 n14)), (5, .v (.slice A16 names15.length c17)), (13, .v (.bool r21)), (14, .v (.slice A34 r30.length c35)), (15, .v (.slice A51 r47.length c52)), (16, .v (.slice A60 r56.length c61)), (17, .v (.slice A69 r65.length c70)), (18, .v (.slice A78 r74.length c79)), (19, .v (.int .i64 (IntKind.i64.wrap (i92 + 1))))], [], [], 0⟩) (fun _ => by kernel_rfl) fun _ => ?_
                refine g_end (by kernel_rfl) ?_
                refine n_then ?_
                refine g_fin [0, 1, 2, 3, 4, 5, 13, 14, 15, 16, 17, 18, 19] [] [] ⟨[(0, .v (.slice A2 l1.length c3)), (1, .v (.slice A6 from5.length c7)), (2, .v (.slice A10 to9.length c11)), (3, .v (.int .i64 a13)), (4, .v (.int .i64 n14)), (5, .v (.slice A16 names15.length c17)), (13, .v (.bool r21)), (14, .v (.slice A34 r30.length c35)), (15, .v (.slice A51 r47.length c52)), (16, .v (.slice A60 r56.length c61)), (17, .v (.slice A69 r65.length c70)), (18, .v (.slice A78 r74.length c79)), (19, .v (.int .i64 (IntKind.i64.wrap (i92 + 1))))], [], [], 0⟩ (by kernel_rfl) ?_
                exact g_again q93 ⟨(IntKind.i64.wrap (i92 + 1)), rfl, hl95, le91⟩ (Nat.lt_succ_self _)
            · replace hl95 := if_f (of_decide_eq_false hc101) hl95
              refine g_exit ?_
              refine n_then_exit ?_
              refine n_then_exit ?_
              refine n_block_exit ?_
              refine g_fin [0, 1, 2, 3, 4, 5, 13, 14, 17, 18] [] [] ⟨[(0, .v (.slice A2 l1.length c3)), (1, .v (.slice A6 from5.length c7)), (2, .v (.slice A10 to9.length c11)), (3, .v (.int .i64 a13)), (4, .v (.int .i64 n14)), (5, .v (.slice A16 names15.length c17)), (13, .v (.bool r21)), (14, .v (.slice A34 r30.length c35)), (17, .v (.slice A69 r65.length c70)), (18, .v (.slice A78 r74.length c79))], [], [], 0⟩ (by kernel_rfl) ?_
              exact n_join ⟨rfl, some_inj hl95, le91⟩
        · rintro M97 _ ⟨rfl, ht94, le98⟩
          subst ht94
          replace h := orOn_r h
          refine n_then ?_
          refine g_seq ?_
          refine g_seq ?_
          refine g_region ?_
          refine g_exec 1 [0, 1, 2, 3, 4, 5, 13, 14, 17, 18, 20] [] [] (fun _ => ⟨[(0, .v (.slice A2 l1.length c3)), (1, .v (.slice A6 from5.length c7)), (2, .v (.slice A10 to9.length c11)), (3, .v (.int .i64 a13)), (4, .v (.int .i64 n14)), (5, .v (.slice A16 names15.length c17)), (13, .v (.bool r21)), (14, .v (.slice A34 r30.length c35)), (17, .v (.slice A69 r65.length c70)), (18, .v (.slice A78 r74.length c79)), (20, .v (.int .i64 0))], [], [], 0⟩) (fun _ => by kernel_rfl) fun _ => ?_
          refine g_end (by kernel_rfl) ?_
          refine n_then ?_
          refine g_fin [0, 1, 2, 3, 4, 5, 13, 14, 17, 18, 20] [] [] ⟨[(0, .v (.slice A2 l1.length c3)), (1, .v (.slice A6 from5.length c7)), (2, .v (.slice A10 to9.length c11)), (3, .v (.int .i64 a13)), (4, .v (.int .i64 n14)), (5, .v (.slice A16 names15.length c17)), (13, .v (.bool r21)), (14, .v (.slice A34 r30.length c35)), (17, .v (.slice A69 r65.length c70)), (18, .v (.slice A78 r74.length c79)), (20, .v (.int .i64 0))], [], [], 0⟩ (by kernel_rfl) ?_
          obtain ⟨t124, h127, h⟩ := bind_t h
          refine g_blockJ (fun M125 s => s = ⟨[(0, .v (.slice A2 l1.length c3)), (1, .v (.slice A6 from5.length c7)), (2, .v (.slice A10 to9.length c11)), (3, .v (.int .i64 a13)), (4, .v (.int .i64 n14)), (5, .v (.slice A16 names15.length c17)), (13, .v (.bool r21)), (14, .v (.slice A34 r30.length c35))], [], [], 0⟩ ∧ .inr () = t124 ∧ (∀ a u, M97 a = some u → M125 a = some u)) ?_ ?_
          · refine g_while (ι := Nat) (fun q121 M118 s => ∃ (i120 : Int), s = ⟨[(0, .v (.slice A2 l1.length c3)), (1, .v (.slice A6 from5.length c7)), (2, .v (.slice A10 to9.length c11)), (3, .v (.int .i64 a13)), (4, .v (.int .i64 n14)), (5, .v (.slice A16 names15.length c17)), (13, .v (.bool r21)), (14, .v (.slice A34 r30.length c35)), (17, .v (.slice A69 r65.length c70)), (18, .v (.slice A78 r74.length c79)), (20, .v (.int .i64 i120))], [], [], 0⟩ ∧ law10_AtomTells_l2 r65 r74 q121 i120 = some t124 ∧ (∀ a u, M97 a = some u → M118 a = some u)) (fun q121 => q121) k ⟨0, rfl, h127, (fun _ _ h => h)⟩ ?_
            rintro q121 M118 _ ⟨i120, rfl, hl123, le119⟩
            obtain _ | q121 := q121
            · cases hl123
            · rw [law10_AtomTells_l2] at hl123
              refine g_seq ?_
              refine g_seq ?_
              refine g_region ?_
              refine g_exec 4 [0, 1, 2, 3, 4, 5, 13, 14, 17, 18, 20, 65] [] [] (fun _ => ⟨[(0, .v (.slice A2 l1.length c3)), (1, .v (.slice A6 from5.length c7)), (2, .v (.slice A10 to9.length c11)), (3, .v (.int .i64 a13)), (4, .v (.int .i64 n14)), (5, .v (.slice A16 names15.length c17)), (13, .v (.bool r21)), (14, .v (.slice A34 r30.length c35)), (17, .v (.slice A69 r65.length c70)), (18, .v (.slice A78 r74.length c79)), (20, .v (.int .i64 i120)), (65, .v (.bool (decide (i120 < (r65.length : Int)))))], [], [], 0⟩) (fun _ => by kernel_rfl) fun _ => ?_
              refine g_end (by kernel_rfl) ?_
              refine n_then ?_
              refine g_cond (decide (i120 < (r65.length : Int))) (by kernel_rfl) (fun hc129 => ?_) (fun hc129 => ?_)
              · replace hl123 := if_t (of_decide_eq_true hc129) hl123
                refine g_skip ?_
                refine n_then ?_
                refine g_seq ?_
                refine g_block ?_
                refine g_seq ?_
                refine d_begin (by kernel_rfl) [] [] 9 (by kernel_rfl) ?_
                refine dx_exec (fuel := 5) [] [0, 1, 4, 5] [0, 1, 2, 3, 4, 5, 13, 14, 17, 18, 20, 68, 69, 72, 73] [] [] [true, true, false, false, true, true, false, false, false] ⟨[(0, .v (.slice A2 l1.length c3)), (1, .v (.slice A6 from5.length c7)), (2, .v (.slice A10 to9.length c11)), (3, .v (.int .i64 a13)), (4, .v (.int .i64 n14)), (5, .v (.slice A16 names15.length c17)), (13, .v (.bool r21)), (14, .v (.slice A34 r30.length c35)), (17, .v (.slice A69 r65.length c70)), (18, .v (.slice A78 r74.length c79)), (20, .v (.int .i64 i120)), (68, .v (.slice A69 r65.length c70)), (69, .v (.int .i64 i120)), (72, .v (.slice A78 r74.length c79)), (73, .v (.int .i64 i120))], [], [], 0⟩ (by kernel_rfl) (fun _ _ h => h) (by kernel_rfl) (by kernel_rfl) ?_ rfl
                obtain ⟨x130, h131, hl123⟩ := bind_t hl123
                obtain ⟨b132, o133, _, hA134, rfl, hc135⟩ := SlF.at hA71 h131
                refine dx_yld (fuel := 4) (i := 2) [] [true, true, true, false, true, true, false, false, false] (by kernel_rfl) (fun _ _ h => h) (by kernel_rfl) (y_indexA (dst := some 70) (A := A69) (len := r65.length) (kk := .i64) (ii := i120) (sz := 1) (by kernel_rfl) hA134 (xs := r65) rfl h131) (by kernel_rfl) (by kernel_rfl) ?_ rfl
                refine dx_yld (fuel := 3) (i := 3) [] [true, true, true, true, true, true, false, false, false] (by kernel_rfl) (fun _ _ h => h) (by kernel_rfl) (y_load1 (dst := some 71) (ad := ⟨b132, o133 + (i120).toNat * 1, none⟩) (sz := 1) (by kernel_rfl) (v := .int .i64 x130) (le119 _ _ (le98 _ _ (le77 _ _ (hc135 0 _ rfl))))) (by kernel_rfl) (by kernel_rfl) ?_ rfl
                obtain ⟨x136, h137, hl123⟩ := bind_t hl123
                obtain ⟨b138, o139, _, hA140, rfl, hc141⟩ := SlF.at hA80 h137
                refine dx_yld (fuel := 2) (i := 6) [] [true, true, true, true, true, true, true, false, false] (by kernel_rfl) (fun _ _ h => h) (by kernel_rfl) (y_indexA (dst := some 74) (A := A78) (len := r74.length) (kk := .i64) (ii := i120) (sz := 1) (by kernel_rfl) hA140 (xs := r74) rfl h137) (by kernel_rfl) (by kernel_rfl) ?_ rfl
                refine dx_yld (fuel := 1) (i := 7) [] [true, true, true, true, true, true, true, true, false] (by kernel_rfl) (fun _ _ h => h) (by kernel_rfl) (y_load1 (dst := some 75) (ad := ⟨b138, o139 + (i120).toNat * 1, none⟩) (sz := 1) (by kernel_rfl) (v := .int .i64 x136) (le119 _ _ (le98 _ _ (hc141 0 _ rfl)))) (by kernel_rfl) (by kernel_rfl) ?_ rfl
                refine dx_exec (fuel := 0) [] [8] [0, 1, 2, 3, 4, 5, 13, 14, 17, 18, 20, 76] [] [] [true, true, true, true, true, true, true, true, true] ⟨[(0, .v (.slice A2 l1.length c3)), (1, .v (.slice A6 from5.length c7)), (2, .v (.slice A10 to9.length c11)), (3, .v (.int .i64 a13)), (4, .v (.int .i64 n14)), (5, .v (.slice A16 names15.length c17)), (13, .v (.bool r21)), (14, .v (.slice A34 r30.length c35)), (17, .v (.slice A69 r65.length c70)), (18, .v (.slice A78 r74.length c79)), (20, .v (.int .i64 i120)), (76, .v (.bool (x130 != x136)))], [], [], 0⟩ (by kernel_rfl) (fun _ _ h => h) (by kernel_rfl) (by kernel_rfl) ?_ rfl
                refine d_end (by kernel_rfl) ?_
                refine n_then ?_
                refine g_cond ((x130 != x136)) (by kernel_rfl) (fun hc142 => ?_) (fun hc142 => ?_)
                · replace hl123 := if_f (bne_t hc142) hl123
                  refine g_seq ?_
                  refine g_region ?_
                  refine g_exec 1 [12] [] [] (fun _ => ⟨[(12, .v (.bool false))], [], [], 0⟩) (fun _ => by kernel_rfl) fun _ => ?_
                  refine g_end (by kernel_rfl) ?_
                  refine n_then ?_
                  refine g_ret ?_
                  refine n_block_ret ?_
                  refine n_then_ret ?_
                  refine n_then_ret ?_
                  refine n_block_ret ?_
                  refine n_qj ?_
                  refine n_then_ret ?_
                  obtain rfl := some_inj hl123
                  replace h := orOn_l h
                  obtain rfl := some_inj h
                  exact n_post (.bool false) (by kernel_rfl) rfl
                · replace hl123 := if_t (bne_f hc142) hl123
                  refine g_skip ?_
                  refine n_block ?_
                  refine n_then ?_
                  refine g_region ?_
                  refine g_exec 3 [0, 1, 2, 3, 4, 5, 13, 14, 17, 18, 20] [] [] (fun _ => ⟨[(0, .v (.slice A2 l1.length c3)), (1, .v (.slice A6 from5.length c7)), (2, .v (.slice A10 to9.length c11)), (3, .v (.int .i64 a13)), (4, .v (.int .i64 n14)), (5, .v (.slice A16 names15.length c17)), (13, .v (.bool r21)), (14, .v (.slice A34 r30.length c35)), (17, .v (.slice A69 r65.length c70)), (18, .v (.slice A78 r74.length c79)), (20, .v (.int .i64 (IntKind.i64.wrap (i120 + 1))))], [], [], 0⟩) (fun _ => by kernel_rfl) fun _ => ?_
                  refine g_end (by kernel_rfl) ?_
                  refine n_then ?_
                  refine g_fin [0, 1, 2, 3, 4, 5, 13, 14, 17, 18, 20] [] [] ⟨[(0, .v (.slice A2 l1.length c3)), (1, .v (.slice A6 from5.length c7)), (2, .v (.slice A10 to9.length c11)), (3, .v (.int .i64 a13)), (4, .v (.int .i64 n14)), (5, .v (.slice A16 names15.length c17)), (13, .v (.bool r21)), (14, .v (.slice A34 r30.length c35)), (17, .v (.slice A69 r65.length c70)), (18, .v (.slice A78 r74.length c79)), (20, .v (.int .i64 (IntKind.i64.wrap (i120 + 1))))], [], [], 0⟩ (by kernel_rfl) ?_
                  exact g_again q121 ⟨(IntKind.i64.wrap (i120 + 1)), rfl, hl123, le119⟩ (Nat.lt_succ_self _)
              · replace hl123 := if_f (of_decide_eq_false hc129) hl123
                refine g_exit ?_
                refine n_then_exit ?_
                refine n_then_exit ?_
                refine n_block_exit ?_
                refine g_fin [0, 1, 2, 3, 4, 5, 13, 14] [] [] ⟨[(0, .v (.slice A2 l1.length c3)), (1, .v (.slice A6 from5.length c7)), (2, .v (.slice A10 to9.length c11)), (3, .v (.int .i64 a13)), (4, .v (.int .i64 n14)), (5, .v (.slice A16 names15.length c17)), (13, .v (.bool r21)), (14, .v (.slice A34 r30.length c35))], [], [], 0⟩ (by kernel_rfl) ?_
                exact n_join ⟨rfl, some_inj hl123, le119⟩
          · rintro M125 _ ⟨rfl, ht122, le126⟩
            subst ht122
            replace h := orOn_r h
            refine n_then ?_
            refine g_seq ?_
            refine g_seq ?_
            refine g_region ?_
            refine g_exec 1 [0, 1, 2, 3, 4, 5, 13, 14, 77] [] [] (fun _ => ⟨[(0, .v (.slice A2 l1.length c3)), (1, .v (.slice A6 from5.length c7)), (2, .v (.slice A10 to9.length c11)), (3, .v (.int .i64 a13)), (4, .v (.int .i64 n14)), (5, .v (.slice A16 names15.length c17)), (13, .v (.bool r21)), (14, .v (.slice A34 r30.length c35)), (77, .v (.slice A2 l1.length c3))], [], [], 0⟩) (fun _ => by kernel_rfl) fun _ => ?_
            obtain ⟨r146, h147, h⟩ := bind_t h
            refine g_call (dst := some 78) (g := 17) (args := [.slice A2 l1.length c3]) (by kernel_rfl) (by kernel_rfl) (fun v M' => ∃ (A1 : Option Addr) (c2 : Nat), v = .slice A1 r146.length c2 ∧ SlF (fl chP) 2 M' A1 r146 c2) (by intro w hst; exact normP_calls hst.sat l1 A2 c3 (SlF.le hA4 (fun _ _ h => le126 _ _ (le98 _ _ (le77 _ _ (le68 _ _ (le59 _ _ (le50 _ _ (le42 _ _ (le33 _ _ (le24 _ _ h)))))))))) h147) ?_
            rintro _ M148 le149 ⟨A150, c151, rfl, hA152⟩
            refine g_exec 1 [0, 1, 2, 3, 4, 5, 13, 14, 78, 79] [] [] (fun _ => ⟨[(0, .v (.slice A2 l1.length c3)), (1, .v (.slice A6 from5.length c7)), (2, .v (.slice A10 to9.length c11)), (3, .v (.int .i64 a13)), (4, .v (.int .i64 n14)), (5, .v (.slice A16 names15.length c17)), (13, .v (.bool r21)), (14, .v (.slice A34 r30.length c35)), (78, .v (.slice A150 r146.length c151)), (79, .v (.slice A34 r30.length c35))], [], [], 0⟩) (fun _ => by kernel_rfl) fun _ => ?_
            obtain ⟨r154, h155, h⟩ := bind_t h
            refine g_call (dst := some 80) (g := 18) (args := [.slice A34 r30.length c35]) (by kernel_rfl) (by kernel_rfl) (fun v M' => ∃ (A1 : Option Addr) (c2 : Nat), v = .slice A1 r154.length c2 ∧ SlF (fl chP) 2 M' A1 r154 c2) (by intro w hst; exact ref10_Norm_calls k hst.sat r30 A34 c35 (SlF.le hA36 (fun _ _ h => le149 _ _ (le126 _ _ (le98 _ _ (le77 _ _ (le68 _ _ (le59 _ _ (le50 _ _ (le42 _ _ h))))))))) h155) ?_
            rintro _ M156 le157 ⟨A158, c159, rfl, hA160⟩
            obtain ⟨r162, h163, h⟩ := bind_t h
            refine g_call (dst := some 81) (g := 16) (args := [.slice A150 r146.length c151, .slice A158 r154.length c159]) (by kernel_rfl) (by kernel_rfl) (fun v _ => v = .bool r162) (by intro w hst; exact law10_samePairs_calls k hst.sat r146 A150 c151 (SlF.le hA152 le157) r154 A158 c159 hA160 h163) ?_
            rintro _ M164 le165 rfl
            refine g_exec 2 [0, 1, 2, 3, 4, 5, 13, 14, 83] [] [] (fun _ => ⟨[(0, .v (.slice A2 l1.length c3)), (1, .v (.slice A6 from5.length c7)), (2, .v (.slice A10 to9.length c11)), (3, .v (.int .i64 a13)), (4, .v (.int .i64 n14)), (5, .v (.slice A16 names15.length c17)), (13, .v (.bool r21)), (14, .v (.slice A34 r30.length c35)), (83, .v (.bool (!r162)))], [], [], 0⟩) (fun _ => by kernel_rfl) fun _ => ?_
            refine g_bool 83 (!r162) (by kernel_rfl) (fun hc167 => ?_) (fun hc167 => ?_)
            · replace h := if_f (ne_t (bnot_t hc167)) h
              refine g_exec 23 [0, 3, 4, 5, 13, 14, 106] [] [] (fun _ => ⟨[(0, .v (.slice A2 l1.length c3)), (3, .v (.int .i64 a13)), (4, .v (.int .i64 n14)), (5, .v (.slice A16 names15.length c17)), (13, .v (.bool r21)), (14, .v (.slice A34 r30.length c35)), (106, .v (.bool true))], [], [], 0⟩) (fun _ => by kernel_rfl) fun _ => ?_
              refine g_end (by kernel_rfl) ?_
              refine n_then ?_
              refine g_cond true (by kernel_rfl) (fun hc => ?_) (fun hc => ?_)
              · refine g_seq ?_
                refine g_region ?_
                refine g_exec 1 [12] [] [] (fun _ => ⟨[(12, .v (.bool false))], [], [], 0⟩) (fun _ => by kernel_rfl) fun _ => ?_
                refine g_end (by kernel_rfl) ?_
                refine n_then ?_
                refine g_ret ?_
                refine n_then_ret ?_
                obtain rfl := some_inj h
                exact n_post (.bool false) (by kernel_rfl) rfl
              · cases hc
            · replace h := if_t (bnot_f hc167) h
              refine g_exec 2 [0, 1, 2, 3, 4, 5, 13, 14, 83, 84, 85] [] [] (fun _ => ⟨[(0, .v (.slice A2 l1.length c3)), (1, .v (.slice A6 from5.length c7)), (2, .v (.slice A10 to9.length c11)), (3, .v (.int .i64 a13)), (4, .v (.int .i64 n14)), (5, .v (.slice A16 names15.length c17)), (13, .v (.bool r21)), (14, .v (.slice A34 r30.length c35)), (83, .v (.bool false)), (84, .v (.slice A2 l1.length c3)), (85, .v (.int .i64 n14))], [], [], 0⟩) (fun _ => by kernel_rfl) fun _ => ?_
              obtain ⟨r171, h172, h⟩ := bind_t h
              refine g_call (dst := some 86) (g := 19) (args := [.slice A2 l1.length c3, .int .i64 n14]) (by kernel_rfl) (by kernel_rfl) (fun v M' => ∃ (A1 : Option Addr) (c2 : Nat), v = .slice A1 r171.length c2 ∧ SlF (fl chP) 2 M' A1 r171 c2) (by intro w hst; exact shiftP_calls hst.sat l1 A2 c3 (SlF.le hA4 (fun _ _ h => le165 _ _ (le157 _ _ (le149 _ _ (le126 _ _ (le98 _ _ (le77 _ _ (le68 _ _ (le59 _ _ (le50 _ _ (le42 _ _ (le33 _ _ (le24 _ _ h))))))))))))) n14 h172) ?_
              rintro _ M173 le174 ⟨A175, c176, rfl, hA177⟩
              refine g_exec 2 [0, 1, 2, 3, 4, 5, 13, 14, 83, 86, 87, 88] [] [] (fun _ => ⟨[(0, .v (.slice A2 l1.length c3)), (1, .v (.slice A6 from5.length c7)), (2, .v (.slice A10 to9.length c11)), (3, .v (.int .i64 a13)), (4, .v (.int .i64 n14)), (5, .v (.slice A16 names15.length c17)), (13, .v (.bool r21)), (14, .v (.slice A34 r30.length c35)), (83, .v (.bool false)), (86, .v (.slice A175 r171.length c176)), (87, .v (.slice A34 r30.length c35)), (88, .v (.int .i64 n14))], [], [], 0⟩) (fun _ => by kernel_rfl) fun _ => ?_
              obtain ⟨r179, h180, h⟩ := bind_t h
              refine g_call (dst := some 89) (g := 20) (args := [.slice A34 r30.length c35, .int .i64 n14]) (by kernel_rfl) (by kernel_rfl) (fun v M' => ∃ (A1 : Option Addr) (c2 : Nat), v = .slice A1 r179.length c2 ∧ SlF (fl chP) 2 M' A1 r179 c2) (by intro w hst; exact ref10_Shift_calls k hst.sat r30 A34 c35 (SlF.le hA36 (fun _ _ h => le174 _ _ (le165 _ _ (le157 _ _ (le149 _ _ (le126 _ _ (le98 _ _ (le77 _ _ (le68 _ _ (le59 _ _ (le50 _ _ (le42 _ _ h)))))))))))) n14 h180) ?_
              rintro _ M181 le182 ⟨A183, c184, rfl, hA185⟩
              obtain ⟨r187, h188, h⟩ := bind_t h
              refine g_call (dst := some 90) (g := 16) (args := [.slice A175 r171.length c176, .slice A183 r179.length c184]) (by kernel_rfl) (by kernel_rfl) (fun v _ => v = .bool r187) (by intro w hst; exact law10_samePairs_calls k hst.sat r171 A175 c176 (SlF.le hA177 le182) r179 A183 c184 hA185 h188) ?_
              rintro _ M189 le190 rfl
              refine g_exec 3 [0, 1, 2, 3, 4, 5, 13, 14, 93] [] [] (fun _ => ⟨[(0, .v (.slice A2 l1.length c3)), (1, .v (.slice A6 from5.length c7)), (2, .v (.slice A10 to9.length c11)), (3, .v (.int .i64 a13)), (4, .v (.int .i64 n14)), (5, .v (.slice A16 names15.length c17)), (13, .v (.bool r21)), (14, .v (.slice A34 r30.length c35)), (93, .v (.bool (!r187)))], [], [], 0⟩) (fun _ => by kernel_rfl) fun _ => ?_
              refine g_bool 93 (!r187) (by kernel_rfl) (fun hc192 => ?_) (fun hc192 => ?_)
              · replace h := if_f (ne_t (bnot_t hc192)) h
                refine g_exec 13 [0, 3, 4, 5, 13, 14, 106] [] [] (fun _ => ⟨[(0, .v (.slice A2 l1.length c3)), (3, .v (.int .i64 a13)), (4, .v (.int .i64 n14)), (5, .v (.slice A16 names15.length c17)), (13, .v (.bool r21)), (14, .v (.slice A34 r30.length c35)), (106, .v (.bool true))], [], [], 0⟩) (fun _ => by kernel_rfl) fun _ => ?_
                refine g_end (by kernel_rfl) ?_
                refine n_then ?_
                refine g_cond true (by kernel_rfl) (fun hc => ?_) (fun hc => ?_)
                · refine g_seq ?_
                  refine g_region ?_
                  refine g_exec 1 [12] [] [] (fun _ => ⟨[(12, .v (.bool false))], [], [], 0⟩) (fun _ => by kernel_rfl) fun _ => ?_
                  refine g_end (by kernel_rfl) ?_
                  refine n_then ?_
                  refine g_ret ?_
                  refine n_then_ret ?_
                  obtain rfl := some_inj h
                  exact n_post (.bool false) (by kernel_rfl) rfl
                · cases hc
              · replace h := if_t (bnot_f hc192) h
                refine g_exec 3 [0, 1, 2, 3, 4, 5, 13, 14, 93, 94, 95, 96] [] [] (fun _ => ⟨[(0, .v (.slice A2 l1.length c3)), (1, .v (.slice A6 from5.length c7)), (2, .v (.slice A10 to9.length c11)), (3, .v (.int .i64 a13)), (4, .v (.int .i64 n14)), (5, .v (.slice A16 names15.length c17)), (13, .v (.bool r21)), (14, .v (.slice A34 r30.length c35)), (93, .v (.bool false)), (94, .v (.slice A2 l1.length c3)), (95, .v (.slice A6 from5.length c7)), (96, .v (.slice A10 to9.length c11))], [], [], 0⟩) (fun _ => by kernel_rfl) fun _ => ?_
                obtain ⟨r196, h197, h⟩ := bind_t h
                refine g_call (dst := some 97) (g := 21) (args := [.slice A2 l1.length c3, .slice A6 from5.length c7, .slice A10 to9.length c11]) (by kernel_rfl) (by kernel_rfl) (fun v M' => ∃ (A1 : Option Addr) (c2 : Nat), v = .slice A1 r196.length c2 ∧ SlF (fl chP) 2 M' A1 r196 c2) (by intro w hst; exact renameP_calls hst.sat l1 A2 c3 (SlF.le hA4 (fun _ _ h => le190 _ _ (le182 _ _ (le174 _ _ (le165 _ _ (le157 _ _ (le149 _ _ (le126 _ _ (le98 _ _ (le77 _ _ (le68 _ _ (le59 _ _ (le50 _ _ (le42 _ _ (le33 _ _ (le24 _ _ h)))))))))))))))) from5 A6 c7 (SlF.le hA8 (fun _ _ h => le190 _ _ (le182 _ _ (le174 _ _ (le165 _ _ (le157 _ _ (le149 _ _ (le126 _ _ (le98 _ _ (le77 _ _ (le68 _ _ (le59 _ _ (le50 _ _ (le42 _ _ (le33 _ _ (le24 _ _ h)))))))))))))))) to9 A10 c11 (SlF.le hA12 (fun _ _ h => le190 _ _ (le182 _ _ (le174 _ _ (le165 _ _ (le157 _ _ (le149 _ _ (le126 _ _ (le98 _ _ (le77 _ _ (le68 _ _ (le59 _ _ (le50 _ _ (le42 _ _ (le33 _ _ (le24 _ _ h)))))))))))))))) h197) ?_
                rintro _ M198 le199 ⟨A200, c201, rfl, hA202⟩
                refine g_exec 2 [0, 2, 3, 4, 5, 13, 14, 93, 97, 98, 99] [] [] (fun _ => ⟨[(0, .v (.slice A2 l1.length c3)), (2, .v (.slice A10 to9.length c11)), (3, .v (.int .i64 a13)), (4, .v (.int .i64 n14)), (5, .v (.slice A16 names15.length c17)), (13, .v (.bool r21)), (14, .v (.slice A34 r30.length c35)), (93, .v (.bool false)), (97, .v (.slice A200 r196.length c201)), (98, .v (.slice A34 r30.length c35)), (99, .v (.slice A6 from5.length c7))], [], [], 0⟩) (fun _ => by kernel_rfl) fun _ => ?_
                obtain ⟨r204, h205, h⟩ := bind_t h
                refine g_call (dst := some 100) (g := 11) (args := [.slice A6 from5.length c7]) (by kernel_rfl) (by kernel_rfl) (fun v M' => ∃ (A1 : Option Addr) (c2 : Nat), v = .slice A1 r204.length c2 ∧ SlF (fl chI) 1 M' A1 r204 c2) (by intro w hst; exact law10_refAtoms_calls k hst.sat from5 A6 c7 (SlF.le hA8 (fun _ _ h => le199 _ _ (le190 _ _ (le182 _ _ (le174 _ _ (le165 _ _ (le157 _ _ (le149 _ _ (le126 _ _ (le98 _ _ (le77 _ _ (le68 _ _ (le59 _ _ (le50 _ _ (le42 _ _ (le33 _ _ (le24 _ _ h))))))))))))))))) h205) ?_
                rintro _ M206 le207 ⟨A208, c209, rfl, hA210⟩
                refine g_exec 1 [0, 3, 4, 5, 13, 14, 93, 97, 98, 100, 101] [] [] (fun _ => ⟨[(0, .v (.slice A2 l1.length c3)), (3, .v (.int .i64 a13)), (4, .v (.int .i64 n14)), (5, .v (.slice A16 names15.length c17)), (13, .v (.bool r21)), (14, .v (.slice A34 r30.length c35)), (93, .v (.bool false)), (97, .v (.slice A200 r196.length c201)), (98, .v (.slice A34 r30.length c35)), (100, .v (.slice A208 r204.length c209)), (101, .v (.slice A10 to9.length c11))], [], [], 0⟩) (fun _ => by kernel_rfl) fun _ => ?_
                obtain ⟨r212, h213, h⟩ := bind_t h
                refine g_call (dst := some 102) (g := 11) (args := [.slice A10 to9.length c11]) (by kernel_rfl) (by kernel_rfl) (fun v M' => ∃ (A1 : Option Addr) (c2 : Nat), v = .slice A1 r212.length c2 ∧ SlF (fl chI) 1 M' A1 r212 c2) (by intro w hst; exact law10_refAtoms_calls k hst.sat to9 A10 c11 (SlF.le hA12 (fun _ _ h => le207 _ _ (le199 _ _ (le190 _ _ (le182 _ _ (le174 _ _ (le165 _ _ (le157 _ _ (le149 _ _ (le126 _ _ (le98 _ _ (le77 _ _ (le68 _ _ (le59 _ _ (le50 _ _ (le42 _ _ (le33 _ _ (le24 _ _ h)))))))))))))))))) h213) ?_
                rintro _ M214 le215 ⟨A216, c217, rfl, hA218⟩
                obtain ⟨r220, h221, h⟩ := bind_t h
                refine g_call (dst := some 103) (g := 22) (args := [.slice A34 r30.length c35, .slice A208 r204.length c209, .slice A216 r212.length c217]) (by kernel_rfl) (by kernel_rfl) (fun v M' => ∃ (A1 : Option Addr) (c2 : Nat), v = .slice A1 r220.length c2 ∧ SlF (fl chP) 2 M' A1 r220 c2) (by intro w hst; exact ref10_Rename_calls k hst.sat r30 A34 c35 (SlF.le hA36 (fun _ _ h => le215 _ _ (le207 _ _ (le199 _ _ (le190 _ _ (le182 _ _ (le174 _ _ (le165 _ _ (le157 _ _ (le149 _ _ (le126 _ _ (le98 _ _ (le77 _ _ (le68 _ _ (le59 _ _ (le50 _ _ (le42 _ _ h))))))))))))))))) r204 A208 c209 (SlF.le hA210 le215) r212 A216 c217 hA218 h221) ?_
                rintro _ M222 le223 ⟨A224, c225, rfl, hA226⟩
                obtain ⟨r228, h229, h⟩ := bind_t h
                refine g_call (dst := some 104) (g := 16) (args := [.slice A200 r196.length c201, .slice A224 r220.length c225]) (by kernel_rfl) (by kernel_rfl) (fun v _ => v = .bool r228) (by intro w hst; exact law10_samePairs_calls k hst.sat r196 A200 c201 (SlF.le hA202 (fun _ _ h => le223 _ _ (le215 _ _ (le207 _ _ h)))) r220 A224 c225 hA226 h229) ?_
                rintro _ M230 le231 rfl
                refine g_exec 2 [0, 3, 4, 5, 13, 14, 106] [] [] (fun _ => ⟨[(0, .v (.slice A2 l1.length c3)), (3, .v (.int .i64 a13)), (4, .v (.int .i64 n14)), (5, .v (.slice A16 names15.length c17)), (13, .v (.bool r21)), (14, .v (.slice A34 r30.length c35)), (106, .v (.bool (!r228)))], [], [], 0⟩) (fun _ => by kernel_rfl) fun _ => ?_
                refine g_end (by kernel_rfl) ?_
                refine n_then ?_
                refine g_cond (!r228) (by kernel_rfl) (fun hc233 => ?_) (fun hc233 => ?_)
                · replace h := if_f (ne_t (bnot_t hc233)) h
                  refine g_seq ?_
                  refine g_region ?_
                  refine g_exec 1 [12] [] [] (fun _ => ⟨[(12, .v (.bool false))], [], [], 0⟩) (fun _ => by kernel_rfl) fun _ => ?_
                  refine g_end (by kernel_rfl) ?_
                  refine n_then ?_
                  refine g_ret ?_
                  refine n_then_ret ?_
                  obtain rfl := some_inj h
                  exact n_post (.bool false) (by kernel_rfl) rfl
                · replace h := if_t (bnot_f hc233) h
                  refine g_skip ?_
                  refine n_then ?_
                  refine g_seq ?_
                  refine g_region ?_
                  refine g_exec 2 [0, 3, 4, 5, 14, 108] [] [] (fun _ => ⟨[(0, .v (.slice A2 l1.length c3)), (3, .v (.int .i64 a13)), (4, .v (.int .i64 n14)), (5, .v (.slice A16 names15.length c17)), (14, .v (.slice A34 r30.length c35)), (108, .v (.bool r21))], [], [], 0⟩) (fun _ => by kernel_rfl) fun _ => ?_
                  refine g_bool 108 (r21) (by kernel_rfl) (fun hc236 => ?_) (fun hc236 => ?_)
                  · replace h := if_t hc236 h
                    refine g_exec 1 [0, 3, 4, 5, 14, 108, 109] [] [] (fun _ => ⟨[(0, .v (.slice A2 l1.length c3)), (3, .v (.int .i64 a13)), (4, .v (.int .i64 n14)), (5, .v (.slice A16 names15.length c17)), (14, .v (.slice A34 r30.length c35)), (108, .v (.bool true)), (109, .v (.int .i64 n14))], [], [], 0⟩) (fun _ => by kernel_rfl) fun _ => ?_
                    obtain ⟨r238, h239, h⟩ := bind_t h
                    refine g_call (dst := some 110) (g := 23) (args := [.int .i64 n14]) (by kernel_rfl) (by kernel_rfl) (fun v _ => v = .int .i64 r238) (by intro w hst; exact pointP_calls hst.sat n14 h239) ?_
                    rintro _ M240 le241 rfl
                    refine g_exec 1 [0, 3, 5, 14, 108, 110, 111] [] [] (fun _ => ⟨[(0, .v (.slice A2 l1.length c3)), (3, .v (.int .i64 a13)), (5, .v (.slice A16 names15.length c17)), (14, .v (.slice A34 r30.length c35)), (108, .v (.bool true)), (110, .v (.int .i64 r238)), (111, .v (.int .i64 n14))], [], [], 0⟩) (fun _ => by kernel_rfl) fun _ => ?_
                    obtain ⟨r243, h244, h⟩ := bind_t h
                    refine g_call (dst := some 112) (g := 24) (args := [.int .i64 n14]) (by kernel_rfl) (by kernel_rfl) (fun v _ => v = .int .i64 r243) (by intro w hst; exact ref10_Point_calls hst.sat n14 h244) ?_
                    rintro _ M245 le246 rfl
                    refine g_exec 3 [0, 3, 5, 14, 115] [] [] (fun _ => ⟨[(0, .v (.slice A2 l1.length c3)), (3, .v (.int .i64 a13)), (5, .v (.slice A16 names15.length c17)), (14, .v (.slice A34 r30.length c35)), (115, .v (.bool (r238 == r243)))], [], [], 0⟩) (fun _ => by kernel_rfl) fun _ => ?_
                    refine g_bool 115 ((r238 == r243)) (by kernel_rfl) (fun hc248 => ?_) (fun hc248 => ?_)
                    · replace h := if_t (eq_of_beq hc248) h
                      refine g_exec 1 [0, 3, 5, 14, 115, 116] [] [] (fun _ => ⟨[(0, .v (.slice A2 l1.length c3)), (3, .v (.int .i64 a13)), (5, .v (.slice A16 names15.length c17)), (14, .v (.slice A34 r30.length c35)), (115, .v (.bool true)), (116, .v (.int .i64 a13))], [], [], 0⟩) (fun _ => by kernel_rfl) fun _ => ?_
                      obtain ⟨r250, h251, h⟩ := bind_t h
                      refine g_call (dst := some 117) (g := 25) (args := [.int .i64 a13]) (by kernel_rfl) (by kernel_rfl) (fun v _ => v = .int .i64 r250) (by intro w hst; exact pointOfP_calls hst.sat a13 h251) ?_
                      rintro _ M252 le253 rfl
                      refine g_exec 1 [0, 3, 5, 14, 115, 117, 118] [] [] (fun _ => ⟨[(0, .v (.slice A2 l1.length c3)), (3, .v (.int .i64 a13)), (5, .v (.slice A16 names15.length c17)), (14, .v (.slice A34 r30.length c35)), (115, .v (.bool true)), (117, .v (.int .i64 r250)), (118, .v (.int .i64 a13))], [], [], 0⟩) (fun _ => by kernel_rfl) fun _ => ?_
                      obtain ⟨r255, h256, h⟩ := bind_t h
                      refine g_call (dst := some 119) (g := 26) (args := [.int .i64 a13]) (by kernel_rfl) (by kernel_rfl) (fun v _ => v = .int .i64 r255) (by intro w hst; exact ref10_PointOf_calls hst.sat a13 h256) ?_
                      rintro _ M257 le258 rfl
                      refine g_exec 3 [0, 3, 5, 14, 122] [] [] (fun _ => ⟨[(0, .v (.slice A2 l1.length c3)), (3, .v (.int .i64 a13)), (5, .v (.slice A16 names15.length c17)), (14, .v (.slice A34 r30.length c35)), (122, .v (.bool (r250 == r255)))], [], [], 0⟩) (fun _ => by kernel_rfl) fun _ => ?_
                      refine g_bool 122 ((r250 == r255)) (by kernel_rfl) (fun hc260 => ?_) (fun hc260 => ?_)
                      · replace h := if_t (eq_of_beq hc260) h
                        refine g_exec 1 [0, 3, 5, 14, 122, 123] [] [] (fun _ => ⟨[(0, .v (.slice A2 l1.length c3)), (3, .v (.int .i64 a13)), (5, .v (.slice A16 names15.length c17)), (14, .v (.slice A34 r30.length c35)), (122, .v (.bool true)), (123, .v (.int .i64 a13))], [], [], 0⟩) (fun _ => by kernel_rfl) fun _ => ?_
                        obtain ⟨r262, h263, h⟩ := bind_t h
                        refine g_call (dst := some 124) (g := 27) (args := [.int .i64 a13]) (by kernel_rfl) (by kernel_rfl) (fun v _ => v = .bool r262) (by intro w hst; exact isPointP_calls hst.sat a13 h263) ?_
                        rintro _ M264 le265 rfl
                        refine g_exec 5 [0, 3, 5, 14, 129] [] [] (fun _ => ⟨[(0, .v (.slice A2 l1.length c3)), (3, .v (.int .i64 a13)), (5, .v (.slice A16 names15.length c17)), (14, .v (.slice A34 r30.length c35)), (129, .v (.bool (r262 == (decide (a13 < 0)))))], [], [], 0⟩) (fun _ => by kernel_rfl) fun _ => ?_
                        refine g_bool 129 ((r262 == (decide (a13 < 0)))) (by kernel_rfl) (fun hc267 => ?_) (fun hc267 => ?_)
                        · replace h := if_t (eq_of_beq hc267) h
                          refine g_exec 2 [0, 3, 5, 14, 129, 130, 131] [] [] (fun _ => ⟨[(0, .v (.slice A2 l1.length c3)), (3, .v (.int .i64 a13)), (5, .v (.slice A16 names15.length c17)), (14, .v (.slice A34 r30.length c35)), (129, .v (.bool true)), (130, .v (.slice A16 names15.length c17)), (131, .v (.int .i64 a13))], [], [], 0⟩) (fun _ => by kernel_rfl) fun _ => ?_
                          obtain ⟨r269, h270, h⟩ := bind_t h
                          refine g_call (dst := some 132) (g := 28) (args := [.slice A16 names15.length c17, .int .i64 a13]) (by kernel_rfl) (by kernel_rfl) (fun v _ => v = .string r269) (by intro w hst; exact textP1_calls hst.sat (hT.ext hst.ext0) names15 A16 c17 (SlF.le hA18 (fun _ _ h => le265 _ _ (le258 _ _ (le253 _ _ (le246 _ _ (le241 _ _ (le231 _ _ (le223 _ _ (le215 _ _ (le207 _ _ (le199 _ _ (le190 _ _ (le182 _ _ (le174 _ _ (le165 _ _ (le157 _ _ (le149 _ _ (le126 _ _ (le98 _ _ (le77 _ _ (le68 _ _ (le59 _ _ (le50 _ _ (le42 _ _ (le33 _ _ (le24 _ _ h)))))))))))))))))))))))))) a13 h270) ?_
                          rintro _ M271 le272 rfl
                          refine g_exec 2 [0, 5, 14, 129, 132, 133, 134] [] [] (fun _ => ⟨[(0, .v (.slice A2 l1.length c3)), (5, .v (.slice A16 names15.length c17)), (14, .v (.slice A34 r30.length c35)), (129, .v (.bool true)), (132, .v (.string r269)), (133, .v (.slice A16 names15.length c17)), (134, .v (.int .i64 a13))], [], [], 0⟩) (fun _ => by kernel_rfl) fun _ => ?_
                          obtain ⟨r274, h275, h⟩ := bind_t h
                          refine g_call (dst := some 135) (g := 29) (args := [.slice A16 names15.length c17, .int .i64 a13]) (by kernel_rfl) (by kernel_rfl) (fun v _ => v = .string r274) (by intro w hst; exact ref10_Text_calls k hst.sat names15 A16 c17 (SlF.le hA18 (fun _ _ h => le272 _ _ (le265 _ _ (le258 _ _ (le253 _ _ (le246 _ _ (le241 _ _ (le231 _ _ (le223 _ _ (le215 _ _ (le207 _ _ (le199 _ _ (le190 _ _ (le182 _ _ (le174 _ _ (le165 _ _ (le157 _ _ (le149 _ _ (le126 _ _ (le98 _ _ (le77 _ _ (le68 _ _ (le59 _ _ (le50 _ _ (le42 _ _ (le33 _ _ (le24 _ _ h))))))))))))))))))))))))))) a13 h275) ?_
                          rintro _ M276 le277 rfl
                          refine g_exec 3 [0, 5, 14, 138] [] [] (fun _ => ⟨[(0, .v (.slice A2 l1.length c3)), (5, .v (.slice A16 names15.length c17)), (14, .v (.slice A34 r30.length c35)), (138, .v (.bool (r269.toList == r274.toList)))], [], [], 0⟩) (fun _ => by kernel_rfl) fun _ => ?_
                          refine g_bool 138 ((r269.toList == r274.toList)) (by kernel_rfl) (fun hc279 => ?_) (fun hc279 => ?_)
                          · replace h := if_t hc279 h
                            refine g_exec 2 [5, 14, 138, 139, 140] [] [] (fun _ => ⟨[(5, .v (.slice A16 names15.length c17)), (14, .v (.slice A34 r30.length c35)), (138, .v (.bool true)), (139, .v (.slice A16 names15.length c17)), (140, .v (.slice A2 l1.length c3))], [], [], 0⟩) (fun _ => by kernel_rfl) fun _ => ?_
                            obtain ⟨r281, h282, h⟩ := bind_t h
                            refine g_call (dst := some 141) (g := 30) (args := [.slice A16 names15.length c17, .slice A2 l1.length c3]) (by kernel_rfl) (by kernel_rfl) (fun v _ => v = .string r281) (by intro w hst; exact textsP1_calls hst.sat (hT.ext hst.ext0) names15 A16 c17 (SlF.le hA18 (fun _ _ h => le277 _ _ (le272 _ _ (le265 _ _ (le258 _ _ (le253 _ _ (le246 _ _ (le241 _ _ (le231 _ _ (le223 _ _ (le215 _ _ (le207 _ _ (le199 _ _ (le190 _ _ (le182 _ _ (le174 _ _ (le165 _ _ (le157 _ _ (le149 _ _ (le126 _ _ (le98 _ _ (le77 _ _ (le68 _ _ (le59 _ _ (le50 _ _ (le42 _ _ (le33 _ _ (le24 _ _ h)))))))))))))))))))))))))))) l1 A2 c3 (SlF.le hA4 (fun _ _ h => le277 _ _ (le272 _ _ (le265 _ _ (le258 _ _ (le253 _ _ (le246 _ _ (le241 _ _ (le231 _ _ (le223 _ _ (le215 _ _ (le207 _ _ (le199 _ _ (le190 _ _ (le182 _ _ (le174 _ _ (le165 _ _ (le157 _ _ (le149 _ _ (le126 _ _ (le98 _ _ (le77 _ _ (le68 _ _ (le59 _ _ (le50 _ _ (le42 _ _ (le33 _ _ (le24 _ _ h)))))))))))))))))))))))))))) h282) ?_
                            rintro _ M283 le284 rfl
                            refine g_exec 2 [138, 141, 142, 143] [] [] (fun _ => ⟨[(138, .v (.bool true)), (141, .v (.string r281)), (142, .v (.slice A16 names15.length c17)), (143, .v (.slice A34 r30.length c35))], [], [], 0⟩) (fun _ => by kernel_rfl) fun _ => ?_
                            obtain ⟨r286, h287, h⟩ := bind_t h
                            refine g_call (dst := some 144) (g := 31) (args := [.slice A16 names15.length c17, .slice A34 r30.length c35]) (by kernel_rfl) (by kernel_rfl) (fun v _ => v = .string r286) (by intro w hst; exact ref10_Texts_calls k hst.sat names15 A16 c17 (SlF.le hA18 (fun _ _ h => le284 _ _ (le277 _ _ (le272 _ _ (le265 _ _ (le258 _ _ (le253 _ _ (le246 _ _ (le241 _ _ (le231 _ _ (le223 _ _ (le215 _ _ (le207 _ _ (le199 _ _ (le190 _ _ (le182 _ _ (le174 _ _ (le165 _ _ (le157 _ _ (le149 _ _ (le126 _ _ (le98 _ _ (le77 _ _ (le68 _ _ (le59 _ _ (le50 _ _ (le42 _ _ (le33 _ _ (le24 _ _ h))))))))))))))))))))))))))))) r30 A34 c35 (SlF.le hA36 (fun _ _ h => le284 _ _ (le277 _ _ (le272 _ _ (le265 _ _ (le258 _ _ (le253 _ _ (le246 _ _ (le241 _ _ (le231 _ _ (le223 _ _ (le215 _ _ (le207 _ _ (le199 _ _ (le190 _ _ (le182 _ _ (le174 _ _ (le165 _ _ (le157 _ _ (le149 _ _ (le126 _ _ (le98 _ _ (le77 _ _ (le68 _ _ (le59 _ _ (le50 _ _ (le42 _ _ h))))))))))))))))))))))))))) h287) ?_
                            rintro _ M288 le289 rfl
                            refine g_exec 3 [12] [] [] (fun _ => ⟨[(12, .v (.bool (r281.toList == r286.toList)))], [], [], 0⟩) (fun _ => by kernel_rfl) fun _ => ?_
                            refine g_end (by kernel_rfl) ?_
                            refine n_then ?_
                            refine g_ret ?_
                            obtain rfl := some_inj h
                            exact n_post (.bool (r281.toList == r286.toList)) (by kernel_rfl) rfl
                          · replace h := if_f (ne_t hc279) h
                            refine g_exec 9 [12] [] [] (fun _ => ⟨[(12, .v (.bool false))], [], [], 0⟩) (fun _ => by kernel_rfl) fun _ => ?_
                            refine g_end (by kernel_rfl) ?_
                            refine n_then ?_
                            refine g_ret ?_
                            obtain rfl := some_inj h
                            exact n_post (.bool false) (by kernel_rfl) rfl
                        · replace h := if_f (ne_of_beq_false hc267) h
                          refine g_exec 18 [12] [] [] (fun _ => ⟨[(12, .v (.bool false))], [], [], 0⟩) (fun _ => by kernel_rfl) fun _ => ?_
                          refine g_end (by kernel_rfl) ?_
                          refine n_then ?_
                          refine g_ret ?_
                          obtain rfl := some_inj h
                          exact n_post (.bool false) (by kernel_rfl) rfl
                      · replace h := if_f (ne_of_beq_false hc260) h
                        refine g_exec 25 [12] [] [] (fun _ => ⟨[(12, .v (.bool false))], [], [], 0⟩) (fun _ => by kernel_rfl) fun _ => ?_
                        refine g_end (by kernel_rfl) ?_
                        refine n_then ?_
                        refine g_ret ?_
                        obtain rfl := some_inj h
                        exact n_post (.bool false) (by kernel_rfl) rfl
                    · replace h := if_f (ne_of_beq_false hc248) h
                      refine g_exec 32 [12] [] [] (fun _ => ⟨[(12, .v (.bool false))], [], [], 0⟩) (fun _ => by kernel_rfl) fun _ => ?_
                      refine g_end (by kernel_rfl) ?_
                      refine n_then ?_
                      refine g_ret ?_
                      obtain rfl := some_inj h
                      exact n_post (.bool false) (by kernel_rfl) rfl
                  · replace h := if_f (ne_t hc236) h
                    refine g_exec 39 [12] [] [] (fun _ => ⟨[(12, .v (.bool false))], [], [], 0⟩) (fun _ => by kernel_rfl) fun _ => ?_
                    refine g_end (by kernel_rfl) ?_
                    refine n_then ?_
                    refine g_ret ?_
                    obtain rfl := some_inj h
                    exact n_post (.bool false) (by kernel_rfl) rfl
end Go.Ch
