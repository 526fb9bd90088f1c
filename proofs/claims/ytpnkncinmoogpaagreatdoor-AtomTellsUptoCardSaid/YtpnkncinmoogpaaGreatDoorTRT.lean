/- The law AtomTells: the row and the card, of arguments within the bound. -/
import Derived.Test.YtpnkncinmoogpaaGreatDoorTOpen
import Derived.Test.YtpnkncinmoogpaaGreatDoorPlainTl
set_option linter.unusedVariables false
namespace Go.Proofs.YtpnkncinmoogpaaGreatDoor.atomTellsUpto
open Go.ChangeShapes Go.WideShapes Go.ChangeAt Go.RowKit Go.Eng Go.Ch Go.Deep
set_option maxRecDepth 100000 in
theorem contract (H : Type) (enc : TypeId × Value → H) (W : World) (base : Nat) (args : Array Value) (ds gs : List (DataW H)) (before : List MemPlace)
    (hval : ∀ (j : Nat) t v, Tryz.f3.params[j]? = some t → args[j]? = some v → Value.okWide Tryz.prog W .any base t v)
    (hW : DataW.Whole enc Tryz.prog Tryz.f3.params.toList Rows.atomTellsSpec.vars false W args.toList ds gs before) (hL : laidMetH Tryz.prog Rows.atomTellsUptoRow.laid W) (hB : Rows.uptoSmall H (ds ++ gs) = true) :
    Calls Tryz.prog 3 args W fun e W' => ∃ v, e = .returned v ∧ Rows.atomTellsSpec.post enc Tryz.prog Tryz.f3 false true false false W args v W' := by
  have hW' := hW
  obtain ⟨p, q, hA0, hV, rfl, hfz, hnd⟩ := hW
  have hA : DataW.TrodAll enc Tryz.prog W 0 (fun _ => true) true Tryz.f3.params.toList args.toList ds p := hA0
  have hAw := hA
  rw [Tryz.params3] at hA hval
  obtain ⟨v0, vs0, d0, ds0, p0, q0, hargs, rfl, rfl, h0, r0⟩ := trodAll_cons hA
  obtain ⟨v1, vs1, d1, ds1, p1, q1, rfl, rfl, rfl, h1, r1⟩ := trodAll_cons r0
  obtain ⟨v2, vs2, d2, ds2, p2, q2, rfl, rfl, rfl, h2, r2⟩ := trodAll_cons r1
  obtain ⟨v3, vs3, d3, ds3, p3, q3, rfl, rfl, rfl, h3, r3⟩ := trodAll_cons r2
  obtain ⟨v4, vs4, d4, ds4, p4, q4, rfl, rfl, rfl, h4, r4⟩ := trodAll_cons r3
  obtain ⟨v5, vs5, d5, ds5, p5, q5, rfl, rfl, rfl, h5, r5⟩ := trodAll_cons r4
  obtain ⟨rfl, rfl, rfl⟩ := trodAll_nil r5
  obtain rfl : args = #[v0, v1, v2, v3, v4, v5] := by cases args; simp_all
  obtain ⟨rfl, rfl⟩ := trodVars_none hV
  have u22 : Tryz.prog.underlying 22 = some (.slice 53) := by kernel_rfl
  have u23 : Tryz.prog.underlying 23 = some (.slice 24) := by kernel_rfl
  have u24 : Tryz.prog.underlying 24 = some (.int .i64) := by kernel_rfl
  have u3 : Tryz.prog.underlying 3 = some (.int .i64) := by kernel_rfl
  have u25 : Tryz.prog.underlying 25 = some (.slice 9) := by kernel_rfl
  obtain ⟨a0, n0, c0, rfl⟩ := okWide_slice u22 (hval 0 22 v0 rfl rfl)
  obtain ⟨m0, g0⟩ := h0
  obtain ⟨A0, x0, C0, Bs0, e0, f0, l0, q0, s0, p0⟩ := opn_slice (sz := 2) (rep := (fl chP)) u22 (by kernel_rfl) (by decide) (opn_p53) enc g0
  injection e0 with e0; injection e0 with ea0 el0 ec0; subst ea0; subst el0; subst ec0
  have L0 : x0.length ≤ Rows.uptoBulk d0 := by have := len_sum p0; simp only at s0; omega
  replace f0 := SlW.f f0 (spot_of u22 (hval 0 22 _ rfl rfl))
  obtain ⟨a1, n1, c1, rfl⟩ := okWide_slice u23 (hval 1 23 v1 rfl rfl)
  obtain ⟨m1, g1⟩ := h1
  obtain ⟨A1, x1, C1, Bs1, e1, f1, l1, q1, s1, p1⟩ := opn_slice (sz := 1) (rep := (fl chI)) u23 (by kernel_rfl) (by decide) (opn_i64 (t := 24) (by kernel_rfl)) enc g1
  injection e1 with e1; injection e1 with ea1 el1 ec1; subst ea1; subst el1; subst ec1
  have L1 : x1.length ≤ Rows.uptoBulk d1 := by have := len_sum p1; simp only at s1; omega
  replace f1 := SlW.f f1 (spot_of u23 (hval 1 23 _ rfl rfl))
  obtain ⟨a2, n2, c2, rfl⟩ := okWide_slice u23 (hval 2 23 v2 rfl rfl)
  obtain ⟨m2, g2⟩ := h2
  obtain ⟨A2, x2, C2, Bs2, e2, f2, l2, q2, s2, p2⟩ := opn_slice (sz := 1) (rep := (fl chI)) u23 (by kernel_rfl) (by decide) (opn_i64 (t := 24) (by kernel_rfl)) enc g2
  injection e2 with e2; injection e2 with ea2 el2 ec2; subst ea2; subst el2; subst ec2
  have L2 : x2.length ≤ Rows.uptoBulk d2 := by have := len_sum p2; simp only at s2; omega
  replace f2 := SlW.f f2 (spot_of u23 (hval 2 23 _ rfl rfl))
  obtain ⟨x3, rfl, _, _, w3⟩ := open_int u24 (hval 3 24 v3 rfl rfl) h3
  have b3 := bounds_i64 w3
  obtain ⟨x4, rfl, _, _, w4⟩ := open_int u3 (hval 4 3 v4 rfl rfl) h4
  have b4 := bounds_i64 w4
  obtain ⟨a5, n5, c5, rfl⟩ := okWide_slice u25 (hval 5 25 v5 rfl rfl)
  obtain ⟨m5, g5⟩ := h5
  obtain ⟨A5, x5, C5, Bs5, e5, f5, l5, q5, s5, p5⟩ := opn_slice (sz := 1) (rep := (fl chS)) u25 (by kernel_rfl) (by decide) (opn_str (t := 9) (by kernel_rfl)) enc g5
  injection e5 with e5; injection e5 with ea5 el5 ec5; subst ea5; subst el5; subst ec5
  have L5 : x5.length ≤ Rows.uptoBulk d5 := by have := len_sum p5; simp only at s5; omega
  replace f5 := SlW.f f5 (spot_of u25 (hval 5 25 _ rfl rfl))
  clear hA0
  have hAb := hAw
  simp only [List.append_nil] at hW'
  have hBB : Rows.uptoBulkAll [d0, d1, d2, d3, d4, d5] ≤ 1048576 := by have := hB; simpa [Rows.uptoSmall] using this
  simp only [Rows.uptoBulkAll, Nat.add_zero] at hBB
  have hsat : Sat W.cell? W := fun _ _ h => h
  have hT : TabW W := table (cast (by kernel_rfl) hL)
  have R0 : inR x0 := fun p hp => by
    obtain ⟨i, hi, rfl⟩ := List.getElem_of_mem hp
    obtain ⟨B, _, h⟩ := q0 i _ (List.getElem?_eq_getElem hi)
    exact h
  have N5 : ∀ s ∈ x5, s.size ≤ 1048576 := fun s hs => by
    obtain ⟨i, hi, rfl⟩ := List.getElem_of_mem hs
    obtain ⟨B, hB, h⟩ := q5 i _ (List.getElem?_eq_getElem hi)
    have := mem_sum (List.mem_of_getElem? hB)
    have s5 := s5
    simp only at s5
    omega
  obtain ⟨k, hk⟩ := AtomTells_plain x0 x1 x2 x3 x4 x5 (by omega) (by omega) (by omega) (by omega) R0 b3 b4 N5
  have walk := law10_AtomTells_calls k hsat hT x0 a0 c0 f0 x1 a1 c1 f1 x2 a2 c2 f2 x3 x4 x5 a5 c5 f5 hk
  refine Calls.mono walk fun e W' ⟨u, M', he, hx, hu⟩ => ?_
  subst he; subst hu
  have hb := hx.below
  exact ⟨_, rfl, post_of_below (pv := []) hW' (fun _ _ _ => trodAll_cons_mk (shut_bool (show Tryz.prog.underlying 4 = some .bool by kernel_rfl) _) trodAll_mk0) (fun sp hsp => hargs_of (by rw [Tryz.params3]; decide) hAb (fun p hp => hW'.lt p (by simpa using hp)) hb sp (fun p hp => hsp p (by simpa using hp))) (fun _ _ => rfl) (by simp)
    hb (ok_one (t := 4) (by kernel_rfl) rfl (okWide_bool_mk (show Tryz.prog.underlying 4 = some .bool by kernel_rfl) _))⟩
theorem laid_met (os : Os) : laidMet Tryz.prog Rows.atomTellsUptoRow.laid ((W0 os).forCall (fun _ _ => 0) ⟨#[], #[Value.slice none 0 0, .slice none 0 0, .slice none 0 0, .int .i64 0, .int .i64 0, .slice none 0 0], []⟩).memory :=
  laidMet_of_run' 8 (by kernel_rfl) (by kernel_rfl)
theorem reads (os : Os) {H : Type} (enc : TypeId × Value → H) : ∃ places, DataW.whole enc Tryz.prog ((W0 os).forCall (fun _ _ => 0) ⟨#[], #[Value.slice none 0 0, .slice none 0 0, .slice none 0 0, .int .i64 0, .int .i64 0, .slice none 0 0], []⟩).memory Tryz.f3.params.toList Rows.atomTellsSpec.vars false (#[Value.slice none 0 0, .slice none 0 0, .slice none 0 0, .int .i64 0, .int .i64 0, .slice none 0 0]).toList 8 = some ([.nil, .nil, .nil, .lit (.int .i64 0), .lit (.int .i64 0), .nil], [], places) :=
  ⟨[], by kernel_rfl⟩
set_option maxRecDepth 100000 in
theorem lifted (os : Os) (started : os.Started) (H : Type) (enc : TypeId × Value → H) (F : Stop.Interp) :
    ReturnsInHanded {} Tryz.checked os 3 .any ((Rows.OpenSpec.upto Rows.atomTellsSpec).preRow enc Tryz.prog Tryz.f3 Rows.atomTellsUptoRow.domain false Rows.atomTellsUptoRow.laid) (((Rows.OpenSpec.upto Rows.atomTellsSpec).at F).post enc Tryz.prog Tryz.f3 false true false false) := by
  obtain ⟨places, hx⟩ := reads os enc
  refine returnsInHanded_of_row (C := Tryz.checked) (s := (Rows.OpenSpec.upto Rows.atomTellsSpec)) own started (by kernel_rfl) Tryz.func3
    (witness_row_at (enc := enc) (C := Tryz.checked) false (W0 os) (#[Value.slice none 0 0, .slice none 0 0, .slice none 0 0, .int .i64 0, .int .i64 0, .slice none 0 0]) rfl (by kernel_rfl) (by kernel_rfl) (by kernel_rfl)
      (OpenSpec.preRow_of_cond 8 hx (by kernel_rfl) (fun k hk => by cases hk; kernel_rfl) (by kernel_rfl) (laid_met os))) ?_
  intro W base args ds gs before hval hW _ hcond _ hL _ _
  exact contract H enc W base args ds gs before hval hW hL (hcond _ rfl)
theorem said : Rows.AtomTellsUptoSaid :=
  OpenClaim.holds_of_cond 3 Tryz.f3 rfl rfl rfl rfl rfl rfl rfl ⟨rfl, rfl, rfl, rfl, rfl⟩ rfl rfl rfl rfl rfl (by kernel_rfl) Tryz.func3 (by kernel_rfl)
    (of_decide_eq_true (by kernel_rfl)) (by unfold Func.isWrapper; first | (rw [if_pos (by decide +kernel)]; kernel_rfl) | (rw [if_neg (by decide +kernel)]; exact ⟨rfl, rfl⟩))
    (fun os started H enc _ F => by rw [OpenClaim.pre_eq_preRow]; exact lifted os started H enc F)
theorem plain (f : FuncId) (fn : Func) (hf : Tryz.pinned.checked.prog.funcNamed "chancel/chancellaw10.AtomTells" = some f) (hfn : Tryz.pinned.checked.prog.funcs[f]? = some fn) :
    false = Tryz.pinned.checked.prog.looks [] ∧ ∀ (j : Nat) t, fn.params[j]? = some t → Tryz.pinned.checked.prog.wantsStandIn t = false := by
  obtain rfl : f = 3 := Option.some.inj ((show Tryz.prog.funcNamed "chancel/chancellaw10.AtomTells" = some 3 by kernel_rfl).symm.trans hf) |>.symm
  obtain rfl : fn = Tryz.f3 := (Option.some.inj (Tryz.func3.symm.trans hfn)).symm
  refine ⟨by kernel_rfl, fun j t ht => ?_⟩
  rw [Tryz.params3] at ht
  have hm : t = 22 ∨ t = 23 ∨ t = 23 ∨ t = 24 ∨ t = 3 ∨ t = 25 := by simpa using Array.mem_of_getElem? ht
  rcases hm with rfl | rfl | rfl | rfl | rfl | rfl
  · exact (show Tryz.prog.wantsStandIn 22 = false by kernel_rfl)
  · exact (show Tryz.prog.wantsStandIn 23 = false by kernel_rfl)
  · exact (show Tryz.prog.wantsStandIn 23 = false by kernel_rfl)
  · exact (show Tryz.prog.wantsStandIn 24 = false by kernel_rfl)
  · exact (show Tryz.prog.wantsStandIn 3 = false by kernel_rfl)
  · exact (show Tryz.prog.wantsStandIn 25 = false by kernel_rfl)
theorem card : Rows.AtomTellsUptoCardSaid :=
  Claim7.holds_tied_plain_at .later [] _ _ _ _ said (fun _ h => by cases h) (by kernel_rfl) (fun _ h => by cases h) atomTellsUpto_row_tie rfl ⟨rfl, rfl⟩ (by kernel_rfl) rfl plain (by kernel_rfl)
end Go.Proofs.YtpnkncinmoogpaaGreatDoor.atomTellsUpto
