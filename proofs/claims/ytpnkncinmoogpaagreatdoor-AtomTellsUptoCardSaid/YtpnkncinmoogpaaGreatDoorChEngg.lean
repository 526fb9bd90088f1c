/- THE ENGINE, part 7: arrays in place: reads and writes of an own block, slicing, clear, append of what is known, == of structs. -/
import Derived.Test.YtpnkncinmoogpaaGreatDoorChEngf
set_option linter.unusedVariables false
namespace Go.Eng
open Go Go.RowKit

/-! ### what an own block tells -/
def ov (b : Nat) (cs : List Value) : Mem := fun a => if a.block = b then (if a.spot = none then cs[a.off]? else none) else none
theorem ov_sat {w : World} {b : Nat} {cs : List Value} {t : Nat} (h : w.heap[b]? = some (.cells cs.toArray t (0, 0))) : Sat (ov b cs) w := by
  intro a v ha
  unfold ov at ha
  split at ha
  · split at ha
    · rename_i h1 h2
      obtain ⟨ab, ao, asp⟩ := a
      simp only at h1 h2 ha
      subst h1; subst h2
      rw [cell_row h]; exact ha
    · cases ha
  · cases ha
theorem ov_at {b o : Nat} {cs : List Value} {v : Value} (h : cs[o]? = some v) : ov b cs ⟨b, o, none⟩ = some v := by
  unfold ov; rw [if_pos rfl, if_pos rfl]; exact h

section rules
variable {P : Program} {cx : Cx} {M M0 : Mem} {s : SS} {l : List Oper} {k : Nat} {Q : Exit → Act → World → Prop} {X : Act → World → Prop} {L0 : List (Nat × SO)} {ex : List Nat} {fuel : Nat} {listed : List Bool}

theorem o_yldO (i : Nat) {b t : Nat} {cs : List Value} (hl : lk s.L i = some (.cells b cs t)) {dst : Option Tmp} {v : Value} (h : Yld P cx M (ov b cs) s l k dst v) (K : J cx M ⟨putS dst (.v v) s.S, s.L, s.R, s.nx⟩ X) : OpJ P cx M s l Q k X := by
  intro a w ha
  obtain ⟨o, ho, hd, hw, hrun⟩ := h.yields a w ha
  refine ⟨o, ho, hw, ?_⟩
  unfold Oper.wp
  rw [hrun w (ov_sat (ha.st.obj _ (lk_mem hl)))]
  show X (a.put o.dst v) w
  rw [hd]
  exact K _ _ (ha.put dst (.v v) h.ok (fun _ _ _ e => by cases e) (fun i so hi => ⟨so, hi, rfl⟩) ha.ids ha.st)
theorem g_yldO (i : Nat) {b t : Nat} {cs : List Value} (hl : lk s.L i = some (.cells b cs t)) {dst : Option Tmp} {v : Value} (h : Yld P cx M (ov b cs) s l k dst v) (K : J cx M ⟨putS dst (.v v) s.S, s.L, s.R, s.nx⟩ (wpList P l.toArray Q (l.drop (k + 1)))) : J cx M s (wpList P l.toArray Q (l.drop k)) := g_op (o_yldO i hl h K)
theorem dx_yldO (keep0 : List Nat) (d : Nat) {b t : Nat} {cs : List Value} (hd : lk L0 d = some (.cells b cs t)) {i : Nat} {dst : Option Tmp} {v : Value} (listed' : List Bool) (hs : noSel l = true) (hle : ∀ a u, M0 a = some u → M a = some u) (hk : keepIn keep0 s.L = L0) (h : Yld P cx M (ov b cs) s l i dst v)
    (hr : (readyE l listed i && freeE l ex listed i) = true) (hl : setB listed i = listed')
    (K : J cx M ⟨putS dst (.v v) s.S, s.L, s.R, s.nx⟩ (XE P l (NoPanic Q) M0 L0 ex fuel listed')) (hf : fuel + 1 = k) : J cx M s (XE P l (NoPanic Q) M0 L0 ex k listed) := by
  subst hf; subst hl
  simp only [Bool.and_eq_true] at hr
  intro a w ha
  obtain ⟨o, ho, hdd, hw, hrun⟩ := h.yields a w ha
  refine d_take1 hs ho hr.1 hr.2 (.inl ⟨hw, fun w' hkn => hrun w' (ov_sat (hkn.2 _ (lk_mem hd)))⟩) (ha.know hle (keep_mem hk)) ?_
  rw [hdd]
  exact K _ _ (ha.put dst (.v v) h.ok (fun _ _ _ e => by cases e) (fun i so hi => ⟨so, hi, rfl⟩) ha.ids ha.st)

/-! ### a store -/
def storeS (P : Program) (n : Nat) (l : List Oper) (k : Nat) (s : SS) : Option (Addr × Value × Nat) :=
  match l[k]? with
  | some o => match guardS l s o.guard, o.op, o.dst with
    | some true, .store t x y, none => match vl s x, vl s y, P.info? t with
      | some (.pointer (some ad)), some v, some inf => some (ad, v, inf.size)
      | _, _, _ => none
    | _, _, _ => none
  | none => none
def inL (cs : List Value) (o : Nat) (vs : List Value) : List Value := cs.take o ++ vs ++ cs.drop (o + vs.length)
theorem o_storeO (i : Nat) {b o sz t : Nat} {v : Value} {cs : List Value} (h : storeS P cx.n l k s = some (⟨b, o, none⟩, v, sz)) (hl : lk s.L i = some (.cells b cs t)) (vs : List Value) (hv : v.cells.toList = vs) (hn : vs.length = sz) (h1 : vs.all Value.oneCell' = true) (hle : o + sz ≤ cs.length)
    (K : J cx M ⟨s.S, setL s.L i (inL cs o vs), s.R, s.nx⟩ X) : OpJ P cx M s l Q k X := by
  unfold storeS at h
  cases ho : l[k]? with
  | none => rw [ho] at h; cases h
  | some oo =>
    rw [ho] at h
    simp only at h
    cases hg : guardS l s oo.guard with
    | none => rw [hg] at h; cases h
    | some c =>
      cases c with
      | false => rw [hg] at h; cases h
      | true =>
        rw [hg] at h
        obtain ⟨od, op, ty, pos, af, gd⟩ := oo
        cases op <;> first | (cases h; done) | skip
        rename_i tt x y
        cases od with
        | some d => cases h
        | none =>
        simp only at h
        cases hx : vl s x with
        | none => rw [hx] at h; cases h
        | some xv =>
        cases hy : vl s y with
        | none => rw [hx, hy] at h; cases xv <;> first | (cases h; done) | (rename_i q; cases q <;> cases h)
        | some yv =>
        cases hin : P.info? tt with
        | none => rw [hx, hy, hin] at h; cases xv <;> first | (cases h; done) | (rename_i q; cases q <;> cases h)
        | some inf =>
        rw [hx, hy, hin] at h
        cases xv <;> first | (cases h; done) | skip
        rename_i q
        cases q with
        | none => cases h
        | some ad' =>
        simp only [Option.some.injEq, Prod.mk.injEq] at h
        obtain ⟨rfl, rfl, rfl⟩ := h
        subst hv
        intro a w ha
        have hst := ha.st
        have hb : w.heap[b]? = some (.cells cs.toArray t (0, 0)) := hst.obj _ (lk_mem hl)
        have hrun : (storeVar tt ⟨b, o, none⟩ yv).run P w = .ok () (w.setRow b (inL cs o yv.cells.toList).toArray) := by
          refine storeP_run (cs := cs) ?_ hb
          unfold storeP
          rw [hin]
          have e1 : Nat.beq inf.size inf.size = true := Nat.beq_refl _
          have e2 : Nat.ble (o + inf.size) cs.length = true := Nat.ble_eq_true_of_le hle
          simp only [hn, inL, e1, e2, h1, Bool.and_self, cond_true]
        refine ⟨_, ho, guardS_wanted ha hg, ?_⟩
        unfold Oper.wp
        simp only [execOp, Sem.run_bind, ha.evalv hx, Instr.storeAt, Instr.sureAddr, Sem.run_pure, Result.andThen_ok, ha.evalv hy, hrun]
        refine K _ _ ⟨ha.size, ha.defers, ha.slots, fun t' i' b'' off' ht => ?_, fun i' so hi => ?_, ?_⟩
        · obtain ⟨so, h3, h4⟩ := ha.locs t' i' b'' off' ht
          obtain ⟨so', h5, h6⟩ := setL_lk (b := b) (cs := cs) (t := t) (d := i) (cs' := inL cs o yv.cells.toList) i' so h3
          exact ⟨so', h5, h6.trans h4⟩
        · obtain ⟨so', h5⟩ := setL_ids (d := i) (cs' := inL cs o yv.cells.toList) i' so hi
          exact ha.ids i' so' h5
        · refine hst.write hl (setRow_heap w b cs.toArray _ t (0, 0) hb) (fun kk hk => ?_) ?_ rfl rfl rfl
          · simp [World.setRow, Array.getElem?_modify, Ne.symm hk]
          · simp [World.setRow]
theorem g_storeO (i : Nat) {b o sz t : Nat} {v : Value} {cs : List Value} (h : storeS P cx.n l k s = some (⟨b, o, none⟩, v, sz)) (hl : lk s.L i = some (.cells b cs t)) (vs : List Value) (hv : v.cells.toList = vs) (hn : vs.length = sz) (h1 : vs.all Value.oneCell' = true) (hle : o + sz ≤ cs.length)
    (K : J cx M ⟨s.S, setL s.L i (inL cs o vs), s.R, s.nx⟩ (wpList P l.toArray Q (l.drop (k + 1)))) : J cx M s (wpList P l.toArray Q (l.drop k)) := g_op (o_storeO i h hl vs hv hn h1 hle K)

/-! ### slices of slices -/
def sliceS (P : Program) (n : Nat) (l : List Oper) (k : Nat) (s : SS) : Option (Option Tmp × Option Addr × Nat × Nat × Nat × Option Int × Option Int) :=
  match l[k]? with
  | some o => match guardS l s o.guard, o.op with
    | some true, .slice t x lo hi none => match vl s x, P.underlying t with
      | some (.slice A len cap), some (.slice e) => match P.info? e with
        | some inf => match lo, hi with
          | none, none => bif okD n o.dst then some (o.dst, A, len, cap, inf.size, none, none) else none
          | some x, none => match vl s x with
            | some (.int .i64 a) => bif okD n o.dst then some (o.dst, A, len, cap, inf.size, some a, none) else none
            | _ => none
          | none, some y => match vl s y with
            | some (.int .i64 b) => bif okD n o.dst then some (o.dst, A, len, cap, inf.size, none, some b) else none
            | _ => none
          | some x, some y => match vl s x, vl s y with
            | some (.int .i64 a), some (.int .i64 b) => bif okD n o.dst then some (o.dst, A, len, cap, inf.size, some a, some b) else none
            | _, _ => none
        | none => none
      | _, _ => none
    | _, _ => none
  | none => none
theorem elem_of {t e : Nat} (h : P.underlying t = some (.slice e)) : P.elem t = e := by
  simp [Program.elem, h]
theorem y_slice {Mk : Mem} {dst : Option Tmp} {A : Option Addr} {len cap sz : Nat} {lo hi : Option Int} (h : sliceS P cx.n l k s = some (dst, A, len, cap, sz, lo, hi)) (i j : Nat) (hlo : lo = some (i : Int) ∨ lo = none ∧ i = 0) (hhi : hi = some (j : Int) ∨ hi = none ∧ j = len) (h1 : i ≤ j) (h2 : j ≤ cap) (h3 : hi = none → len ≤ cap) :
    Yld P cx M Mk s l k dst (sliced A i j cap sz) := by
  unfold sliceS at h
  cases ho : l[k]? with
  | none => rw [ho] at h; cases h
  | some oo =>
    rw [ho] at h
    simp only at h
    cases hg : guardS l s oo.guard with
    | none => rw [hg] at h; cases h
    | some c =>
      cases c with
      | false => rw [hg] at h; cases h
      | true =>
        rw [hg] at h
        obtain ⟨od, op, ty, pos, af, gd⟩ := oo
        cases op <;> first | (cases h; done) | skip
        rename_i t x lo' hi' mx
        cases mx with
        | some m => cases h
        | none =>
        simp only at h
        cases hx : vl s x with
        | none => rw [hx] at h; cases h
        | some xv =>
        cases hu : P.underlying t with
        | none => rw [hx, hu] at h; cases xv <;> cases h
        | some d =>
        rw [hx, hu] at h
        cases xv <;> first | (cases h; done) | skip
        cases d <;> first | (cases h; done) | skip
        rename_i A' len' cap' e
        simp only at h
        cases hin : P.info? e with
        | none => rw [hin] at h; cases h
        | some inf =>
        rw [hin] at h
        simp only at h
        have he := elem_of hu
        have hu' : P.underlying t = some (.slice (P.elem t)) := by rw [he]; exact hu
        have hs : ∀ w, (sizeOf (P.elem t)).run P w = .ok inf.size w := fun w => by rw [he]; simp [sizeOf, typeInfo, hin]
        have hd : okD cx.n od = true := by
          cases hd : okD cx.n od with
          | true => rfl
          | false =>
            exfalso
            rw [hd] at h
            cases lo' <;> cases hi' <;> simp only [cond_false] at h <;> first | (cases h; done) | (split at h <;> cases h)
        rw [hd] at h
        simp only [cond_true] at h
        cases lo' with
        | none =>
          cases hi' with
          | none =>
            simp only [Option.some.injEq, Prod.mk.injEq] at h
            obtain ⟨rfl, rfl, rfl, rfl, rfl, rfl, rfl⟩ := h
            obtain hlo | ⟨_, rfl⟩ := hlo
            · cases hlo
            obtain hhi | ⟨_, rfl⟩ := hhi
            · cases hhi
            refine yld_of ho hg hd _ (fun a w0 ha w hw => ?_)
            simp only [execOp, Option.map_none, Sem.run_bind, ha.evalv hx, run_sliceAt_slice w t _ _ _ _ hu', run_slice_all w t A' _ cap' hu', hs, Result.andThen_ok, Sem.run_pure]
          | some y =>
            simp only at h
            cases hy : vl s y with
            | none => rw [hy] at h; cases h
            | some yv =>
              rw [hy] at h
              cases yv <;> first | (cases h; done) | skip
              rename_i kk b
              cases kk <;> first | (cases h; done) | skip
              simp only [Option.some.injEq, Prod.mk.injEq] at h
              obtain ⟨rfl, rfl, rfl, rfl, rfl, rfl, rfl⟩ := h
              obtain hlo | ⟨_, rfl⟩ := hlo
              · cases hlo
              obtain hhi | ⟨hhi, _⟩ := hhi
              · injection hhi with hhi
                subst hhi
                refine yld_of ho hg hd _ (fun a w0 ha w hw => ?_)
                simp only [execOp, Option.map_none, Option.map_some, Sem.run_bind, ha.evalv hx, ha.evalv hy, run_sliceAt_slice w t _ _ _ _ hu', run_slice_h w t A' _ cap' hu' .i64 (j : Int) (by omega) (by omega), hs, Result.andThen_ok, Sem.run_pure, Int.toNat_natCast]
              · cases hhi
        | some z =>
          cases hi' with
          | none =>
            simp only at h
            cases hz : vl s z with
            | none => rw [hz] at h; cases h
            | some zv =>
              rw [hz] at h
              cases zv <;> first | (cases h; done) | skip
              rename_i kk b
              cases kk <;> first | (cases h; done) | skip
              simp only [Option.some.injEq, Prod.mk.injEq] at h
              obtain ⟨rfl, rfl, rfl, rfl, rfl, rfl, rfl⟩ := h
              obtain hlo | ⟨hlo, _⟩ := hlo
              · injection hlo with hlo
                subst hlo
                obtain hhi | ⟨_, rfl⟩ := hhi
                · cases hhi
                refine yld_of ho hg hd _ (fun a w0 ha w hw => ?_)
                simp only [execOp, Option.map_none, Option.map_some, Sem.run_bind, ha.evalv hx, ha.evalv hz, run_sliceAt_slice w t _ _ _ _ hu', run_slice_l w t A' j cap' hu' .i64 (i : Int) (by omega) (by omega), hs, Result.andThen_ok, Sem.run_pure, Int.toNat_natCast]
              · cases hlo
          | some y =>
            simp only at h
            cases hz : vl s z with
            | none => rw [hz] at h; cases h
            | some zv =>
              cases hy : vl s y with
              | none => rw [hz, hy] at h; cases zv <;> first | (cases h; done) | (rename_i kk _; cases kk <;> cases h)
              | some yv =>
                rw [hz, hy] at h
                cases zv <;> first | (cases h; done) | skip
                rename_i kk b
                cases kk <;> first | (cases h; done) | skip
                cases yv <;> first | (cases h; done) | skip
                rename_i kk b'
                cases kk <;> first | (cases h; done) | skip
                simp only [Option.some.injEq, Prod.mk.injEq] at h
                obtain ⟨rfl, rfl, rfl, rfl, rfl, rfl, rfl⟩ := h
                obtain hlo | ⟨hlo, _⟩ := hlo
                · injection hlo with hlo
                  subst hlo
                  obtain hhi | ⟨hhi, _⟩ := hhi
                  · injection hhi with hhi
                    subst hhi
                    refine yld_of ho hg hd _ (fun a w0 ha w hw => ?_)
                    simp only [execOp, Option.map_none, Option.map_some, Sem.run_bind, ha.evalv hx, ha.evalv hz, ha.evalv hy, run_sliceAt_slice w t _ _ _ _ hu', run_slice_lh w t A' _ cap' hu' .i64 .i64 (i : Int) (j : Int) (by omega) (by omega) (by omega), hs, Result.andThen_ok, Sem.run_pure, Int.toNat_natCast]
                  · cases hhi
                · cases hlo
end rules
end Go.Eng
