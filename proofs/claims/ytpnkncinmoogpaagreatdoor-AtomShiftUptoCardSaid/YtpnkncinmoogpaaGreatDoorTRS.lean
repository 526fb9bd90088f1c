/- The law AtomShift: the row and the card, of arguments within the bound. -/
import Derived.Test.YtpnkncinmoogpaaGreatDoorTOpen
import Derived.Test.YtpnkncinmoogpaaGreatDoorPlainSh
set_option linter.unusedVariables false
namespace Go.Proofs.YtpnkncinmoogpaaGreatDoor.atomShiftUpto
open Go.ChangeShapes Go.WideShapes Go.ChangeAt Go.RowKit Go.Eng Go.Ch Go.Deep
set_option maxRecDepth 100000 in
theorem contract (H : Type) (enc : TypeId × Value → H) (W : World) (base : Nat) (args : Array Value) (ds gs : List (DataW H)) (before : List MemPlace)
    (hval : ∀ (j : Nat) t v, Tryz.f7.params[j]? = some t → args[j]? = some v → Value.okWide Tryz.prog W .any base t v)
    (hW : DataW.Whole enc Tryz.prog Tryz.f7.params.toList Rows.atomShiftSpec.vars false W args.toList ds gs before) (hL : laidMetH Tryz.prog Rows.atomShiftUptoRow.laid W) (hB : Rows.uptoSmall H (ds ++ gs) = true) :
    Calls Tryz.prog 7 args W fun e W' => ∃ v, e = .returned v ∧ Rows.atomShiftSpec.post enc Tryz.prog Tryz.f7 false true false false W args v W' := by
  have hW' := hW
  obtain ⟨p, q, hA0, hV, rfl, hfz, hnd⟩ := hW
  have hA : DataW.TrodAll enc Tryz.prog W 0 (fun _ => true) true Tryz.f7.params.toList args.toList ds p := hA0
  have hAw := hA
  rw [Tryz.params7] at hA hval
  obtain ⟨v0, vs0, d0, ds0, p0, q0, hargs, rfl, rfl, h0, r0⟩ := trodAll_cons hA
  obtain ⟨v1, vs1, d1, ds1, p1, q1, rfl, rfl, rfl, h1, r1⟩ := trodAll_cons r0
  obtain ⟨rfl, rfl, rfl⟩ := trodAll_nil r1
  obtain rfl : args = #[v0, v1] := by cases args; simp_all
  obtain ⟨rfl, rfl⟩ := trodVars_none hV
  have u22 : Tryz.prog.underlying 22 = some (.slice 53) := by kernel_rfl
  have u56 : Tryz.prog.underlying 56 = some (.int .u16) := by kernel_rfl
  obtain ⟨a0, n0, c0, rfl⟩ := okWide_slice u22 (hval 0 22 v0 rfl rfl)
  obtain ⟨m0, g0⟩ := h0
  obtain ⟨A0, x0, C0, Bs0, e0, f0, l0, q0, s0, p0⟩ := opn_slice (sz := 2) (rep := (fl chP)) u22 (by kernel_rfl) (by decide) (opn_p53) enc g0
  injection e0 with e0; injection e0 with ea0 el0 ec0; subst ea0; subst el0; subst ec0
  have L0 : x0.length ≤ Rows.uptoBulk d0 := by have := len_sum p0; simp only at s0; omega
  replace f0 := SlW.f f0 (spot_of u22 (hval 0 22 _ rfl rfl))
  obtain ⟨x1, rfl, _, _, w1⟩ := open_int u56 (hval 1 56 v1 rfl rfl) h1
  have b1 := bounds_u16 w1
  clear hA0
  have hAb := hAw
  simp only [List.append_nil] at hW'
  have hBB : Rows.uptoBulkAll [d0, d1] ≤ 1048576 := by have := hB; simpa [Rows.uptoSmall] using this
  simp only [Rows.uptoBulkAll, Nat.add_zero] at hBB
  have hsat : Sat W.cell? W := fun _ _ h => h
  have hT : TabW W := table (cast (by kernel_rfl) hL)
  have R0 : inR x0 := fun p hp => by
    obtain ⟨i, hi, rfl⟩ := List.getElem_of_mem hp
    obtain ⟨B, _, h⟩ := q0 i _ (List.getElem?_eq_getElem hi)
    exact h
  obtain ⟨k, hk⟩ := AtomShift_plain x0 x1 (by omega) R0 b1
  have walk := law10_AtomShift_calls k hsat hT x0 a0 c0 f0 x1 hk
  refine Calls.mono walk fun e W' ⟨u, M', he, hx, hu⟩ => ?_
  subst he; subst hu
  have hb := hx.below
  exact ⟨_, rfl, post_of_below (pv := []) hW' (fun _ _ _ => trodAll_cons_mk (shut_bool (show Tryz.prog.underlying 4 = some .bool by kernel_rfl) _) trodAll_mk0) (fun sp hsp => hargs_of (by rw [Tryz.params7]; decide) hAb (fun p hp => hW'.lt p (by simpa using hp)) hb sp (fun p hp => hsp p (by simpa using hp))) (fun _ _ => rfl) (by simp)
    hb (ok_one (t := 4) (by kernel_rfl) rfl (okWide_bool_mk (show Tryz.prog.underlying 4 = some .bool by kernel_rfl) _))⟩
theorem laid_met (os : Os) : laidMet Tryz.prog Rows.atomShiftUptoRow.laid ((W0 os).forCall (fun _ _ => 0) ⟨#[], #[Value.slice none 0 0, .int .u16 0], []⟩).memory :=
  laidMet_of_run' 8 (by kernel_rfl) (by kernel_rfl)
theorem reads (os : Os) {H : Type} (enc : TypeId × Value → H) : ∃ places, DataW.whole enc Tryz.prog ((W0 os).forCall (fun _ _ => 0) ⟨#[], #[Value.slice none 0 0, .int .u16 0], []⟩).memory Tryz.f7.params.toList Rows.atomShiftSpec.vars false (#[Value.slice none 0 0, .int .u16 0]).toList 8 = some ([.nil, .lit (.int .u16 0)], [], places) :=
  ⟨[], by kernel_rfl⟩
set_option maxRecDepth 100000 in
theorem lifted (os : Os) (started : os.Started) (H : Type) (enc : TypeId × Value → H) (F : Stop.Interp) :
    ReturnsInHanded {} Tryz.checked os 7 .any ((Rows.OpenSpec.upto Rows.atomShiftSpec).preRow enc Tryz.prog Tryz.f7 Rows.atomShiftUptoRow.domain false Rows.atomShiftUptoRow.laid) (((Rows.OpenSpec.upto Rows.atomShiftSpec).at F).post enc Tryz.prog Tryz.f7 false true false false) := by
  obtain ⟨places, hx⟩ := reads os enc
  refine returnsInHanded_of_row (C := Tryz.checked) (s := (Rows.OpenSpec.upto Rows.atomShiftSpec)) own started (by kernel_rfl) Tryz.func7
    (witness_row_at (enc := enc) (C := Tryz.checked) false (W0 os) (#[Value.slice none 0 0, .int .u16 0]) rfl (by kernel_rfl) (by kernel_rfl) (by kernel_rfl)
      (OpenSpec.preRow_of_cond 8 hx (by kernel_rfl) (fun k hk => by cases hk; kernel_rfl) (by kernel_rfl) (laid_met os))) ?_
  intro W base args ds gs before hval hW _ hcond _ hL _ _
  exact contract H enc W base args ds gs before hval hW hL (hcond _ rfl)
theorem said : Rows.AtomShiftUptoSaid :=
  OpenClaim.holds_of_cond 7 Tryz.f7 rfl rfl rfl rfl rfl rfl rfl ⟨rfl, rfl, rfl, rfl, rfl⟩ rfl rfl rfl rfl rfl (by kernel_rfl) Tryz.func7 (by kernel_rfl)
    (of_decide_eq_true (by kernel_rfl)) (by unfold Func.isWrapper; first | (rw [if_pos (by decide +kernel)]; kernel_rfl) | (rw [if_neg (by decide +kernel)]; exact ⟨rfl, rfl⟩))
    (fun os started H enc _ F => by rw [OpenClaim.pre_eq_preRow]; exact lifted os started H enc F)
theorem plain (f : FuncId) (fn : Func) (hf : Tryz.pinned.checked.prog.funcNamed "chancel/chancellaw10.AtomShift" = some f) (hfn : Tryz.pinned.checked.prog.funcs[f]? = some fn) :
    false = Tryz.pinned.checked.prog.looks [] ∧ ∀ (j : Nat) t, fn.params[j]? = some t → Tryz.pinned.checked.prog.wantsStandIn t = false := by
  obtain rfl : f = 7 := Option.some.inj ((show Tryz.prog.funcNamed "chancel/chancellaw10.AtomShift" = some 7 by kernel_rfl).symm.trans hf) |>.symm
  obtain rfl : fn = Tryz.f7 := (Option.some.inj (Tryz.func7.symm.trans hfn)).symm
  refine ⟨by kernel_rfl, fun j t ht => ?_⟩
  rw [Tryz.params7] at ht
  have hm : t = 22 ∨ t = 56 := by simpa using Array.mem_of_getElem? ht
  rcases hm with rfl | rfl
  · exact (show Tryz.prog.wantsStandIn 22 = false by kernel_rfl)
  · exact (show Tryz.prog.wantsStandIn 56 = false by kernel_rfl)
theorem card : Rows.AtomShiftUptoCardSaid :=
  Claim7.holds_tied_plain_at .later [] _ _ _ _ said (fun _ h => by cases h) (by kernel_rfl) (fun _ h => by cases h) atomShiftUpto_row_tie rfl ⟨rfl, rfl⟩ (by kernel_rfl) rfl plain (by kernel_rfl)
end Go.Proofs.YtpnkncinmoogpaaGreatDoor.atomShiftUpto
