/- THE ENGINE, part 8: == of structs and with nil, clear, append of what is known, rows and blocks turned into each other. -/
import Derived.Test.YtpnkncinmoogpaaGreatDoorChEngg
set_option linter.unusedVariables false
namespace Go.Eng
open Go Go.RowKit

/-! ### == -/
def isIntT (P : Program) (t : TypeId) : Bool := match P.underlying t with | some (.int _) => true | _ => false
def isStrT (P : Program) (t : TypeId) : Bool := match P.underlying t with | some .string => true | _ => false
def eq1 (P : Program) (t : TypeId) : Value → Value → Option Bool
  | .int k a, .int k' b => bif kindEq k k' && isIntT P t then some (a == b) else none
  | .bool a, .bool b => bif isBool P t then some (a == b) else none
  | .string a, .string b => bif isStrT P t then some (a.toList == b.toList) else none
  | _, _ => none
def eqFs (P : Program) (xs ys : Array Value) : List Field → Option Bool
  | [] => some true
  | f :: fs => if f.name ≠ "_" then match partP P f.type xs f.offset, partP P f.type ys f.offset with
    | some u, some v => match eq1 P f.type u v, eqFs P xs ys fs with
      | some r, some r' => some (r && r')
      | _, _ => none
    | _, _ => none
    else eqFs P xs ys fs
theorem eq1_run {P : Program} {t : TypeId} {u v : Value} {r : Bool} (h : eq1 P t u v = some r) (d : Nat) (w : World) : (Op.equalIn (d + 1) t u v).run P w = .ok r w := by
  cases u <;> cases v <;> first | (cases h; done) | skip
  · rename_i a b
    simp only [eq1] at h
    cases hb : isBool P t with
    | false => rw [hb] at h; cases h
    | true =>
      rw [hb] at h
      simp only [cond_true, Option.some.injEq] at h
      subst h
      have hu : P.underlying t = some .bool := by
        unfold isBool at hb
        split at hb
        · assumption
        · cases hb
      exact run_equalIn_bool' w d t a b hu
  · rename_i k a k' b
    simp only [eq1] at h
    cases hb : (kindEq k k' && isIntT P t) with
    | false => rw [hb] at h; cases h
    | true =>
      rw [hb] at h
      simp only [cond_true, Option.some.injEq] at h
      subst h
      simp only [Bool.and_eq_true] at hb
      have hk := kindEq_eq hb.1
      subst hk
      have hu : ∃ k', P.underlying t = some (.int k') := by
        have := hb.2
        unfold isIntT at this
        split at this
        · exact ⟨_, by assumption⟩
        · cases this
      obtain ⟨k', hu⟩ := hu
      exact run_equalIn_int w d t k k' a b hu
  · rename_i a b
    simp only [eq1] at h
    cases hb : isStrT P t with
    | false => rw [hb] at h; cases h
    | true =>
      rw [hb] at h
      simp only [cond_true, Option.some.injEq] at h
      subst h
      have hu : P.underlying t = some .string := by
        unfold isStrT at hb
        split at hb
        · assumption
        · cases hb
      exact run_equalIn_string w d t a b hu
theorem eqFs_run {P : Program} {xs ys : Array Value} (d : Nat) : ∀ {fs : List Field} {r : Bool} (h : eqFs P xs ys fs = some r) (w : World), (Op.eqFields (d + 1) xs ys fs).run P w = .ok r w
  | [], r, h, w => by
    simp only [eqFs, Option.some.injEq] at h
    subst h; rfl
  | f :: fs, r, h, w => by
    simp only [eqFs] at h
    by_cases hn : f.name ≠ "_"
    · rw [if_pos hn] at h
      cases h1 : partP P f.type xs f.offset with
      | none => rw [h1] at h; cases h
      | some u =>
      cases h2 : partP P f.type ys f.offset with
      | none => rw [h1, h2] at h; cases h
      | some v =>
      rw [h1, h2] at h
      simp only at h
      cases h3 : eq1 P f.type u v with
      | none => rw [h3] at h; cases h
      | some q =>
      cases h4 : eqFs P xs ys fs with
      | none => rw [h3, h4] at h; cases h
      | some q' =>
      rw [h3, h4] at h
      simp only [Option.some.injEq] at h
      subst h
      simp only [Op.eqFields, if_pos hn, Sem.run_bind, partP_run h1, partP_run h2, Result.andThen_ok, eq1_run h3]
      cases q with
      | false => rfl
      | true => simp only [Bool.not_true, Bool.false_eq_true, if_false, Bool.true_and]; exact eqFs_run d h4 w
    · rw [if_neg hn] at h
      simp only [Op.eqFields, if_neg hn]
      exact eqFs_run d h w
/-- == of two values that are no ints, no strings. -/
def eqP (P : Program) (t : TypeId) : Value → Value → Option Bool
  | .agg xs, .agg ys => match P.underlying t with
    | some (.struct _) => bif P.stoodInHeld t || P.eqGuardType P.depth t then none else eqFs P xs ys (P.fieldsOf t).toList
    | _ => none
  | .slice A _ _, .slice none 0 0 => match P.underlying t with
    | some (.slice _) => some A.isNone
    | _ => none
  | .pointer A, .pointer none => match P.underlying t with
    | some (.pointer _) => some A.isNone
    | _ => none
  | _, _ => none
theorem fieldsOf_eq {P : Program} {t : TypeId} {fs : Array Field} (h : P.underlying t = some (.struct fs)) : P.underlying t = some (.struct (P.fieldsOf t)) := by
  simp [Program.fieldsOf, h]
theorem run_eqGuard_slice (P : Program) (w : World) (op : BinOp) (t : TypeId) (x y : Operand) (A B : Option Addr) (n c n' c' : Nat) : (eqGuard op t x y (.slice A n c) (.slice B n' c')).run P w = .ok () w := by
  unfold eqGuard; split <;> rfl
theorem run_eqGuard_ptr (P : Program) (w : World) (op : BinOp) (t : TypeId) (x y : Operand) (A B : Option Addr) : (eqGuard op t x y (.pointer A) (.pointer B)).run P w = .ok () w := by
  unfold eqGuard; split <;> rfl
theorem eqIn_ptr {P : Program} {t e : TypeId} (hu : P.underlying t = some (.pointer e)) (d : Nat) (p : Option Addr) (w : World) : (Op.equalIn (d + 1) t (.pointer p) (.pointer none)).run P w = .ok p.isNone w := by
  cases p <;> simp [Op.equalIn, run_underlying hu]
theorem eqIn_slice {P : Program} {t e : TypeId} (hu : P.underlying t = some (.slice e)) (d : Nat) (A : Option Addr) (n c : Nat) (w : World) : (Op.equalIn (d + 1) t (.slice A n c) (.slice none 0 0)).run P w = .ok A.isNone w := by
  cases A <;> simp [Op.equalIn, run_underlying hu]
def EqOk (P : Program) (t : TypeId) (x y : Operand) (u v : Value) (r : Bool) (w : World) : Prop :=
  (do eqGuard .eql t x y u v; binOp .eql t u v : Sem Value).run P w = .ok (.bool r) w ∧ (do eqGuard .neq t x y u v; binOp .neq t u v : Sem Value).run P w = .ok (.bool (!r)) w
theorem eqOk_ptr {P : Program} {t e : TypeId} {x y : Operand} (hu : P.underlying t = some (.pointer e)) (p : Option Addr) (w : World) : EqOk P t x y (.pointer p) (.pointer none) p.isNone w := by
  have he : ∀ w, (Op.equal t (.pointer p) (.pointer none)).run P w = .ok p.isNone w := fun w => eqIn_ptr hu 9999 p w
  constructor <;> (rw [Sem.run_bind, run_eqGuard_ptr, Result.andThen_ok]; simp only [binOp, Sem.run_bind, he, Result.andThen_ok, Sem.run_pure])
theorem eqOk_slice {P : Program} {t e : TypeId} {x y : Operand} (hu : P.underlying t = some (.slice e)) (A : Option Addr) (n c : Nat) (w : World) : EqOk P t x y (.slice A n c) (.slice none 0 0) A.isNone w := by
  have he : ∀ w, (Op.equal t (.slice A n c) (.slice none 0 0)).run P w = .ok A.isNone w := fun w => eqIn_slice hu 9999 A n c w
  constructor <;> (rw [Sem.run_bind, run_eqGuard_slice, Result.andThen_ok]; simp only [binOp, Sem.run_bind, he, Result.andThen_ok, Sem.run_pure])
theorem eqOk_agg {P : Program} {t : TypeId} {x y : Operand} {fs : Array Field} {xs ys : Array Value} {r : Bool} (hu : P.underlying t = some (.struct fs)) (hc : (P.stoodInHeld t || P.eqGuardType P.depth t) = false) (h : eqFs P xs ys (P.fieldsOf t).toList = some r) (w : World) : EqOk P t x y (.agg xs) (.agg ys) r w := by
  simp only [Bool.or_eq_false_iff] at hc
  have hr : ∀ w, (Op.equalIn 10000 t (.agg xs) (.agg ys)).run P w = .ok r w := fun w => by
    refine (run_equalIn_struct w 9999 t xs ys (fieldsOf_eq hu) hc.1).trans (eqFs_run 9998 h w)
  constructor
  · rw [Sem.run_bind, run_eqGuard_agg w _ t x y xs ys hc.2, Result.andThen_ok, run_eql_struct, hr]; rfl
  · rw [Sem.run_bind, run_eqGuard_agg w _ t x y xs ys hc.2, Result.andThen_ok, run_neq_struct, hr]; rfl
theorem eqP_run {P : Program} {t : TypeId} {x y : Operand} {u v : Value} {r : Bool} (h : eqP P t u v = some r) (w : World) : EqOk P t x y u v r w := by
  unfold eqP at h
  split at h
  · split at h
    · rename_i fs hu
      cases hc : (P.stoodInHeld t || P.eqGuardType P.depth t) with
      | true => rw [hc] at h; cases h
      | false =>
        rw [hc] at h
        exact eqOk_agg hu hc h w
    · cases h
  · split at h
    · rename_i hu
      injection h with h
      subst h
      exact eqOk_slice hu _ _ _ w
    · cases h
  · split at h
    · rename_i hu
      injection h with h
      subst h
      exact eqOk_ptr hu _ w
    · cases h
  · cases h

section rules
variable {P : Program} {cx : Cx} {M M0 Mk : Mem} {s : SS} {l : List Oper} {k : Nat} {Q : Exit → Act → World → Prop} {X : Act → World → Prop} {L0 : List (Nat × SO)} {ex : List Nat} {fuel : Nat} {listed : List Bool}

def eqS (P : Program) (n : Nat) (l : List Oper) (k : Nat) (s : SS) : Option (Option Tmp × Bool) :=
  match l[k]? with
  | some o => match guardS l s o.guard, o.op with
    | some true, .binOp .eql t x y _ => match vl s x, vl s y with
      | some u, some v => match eqP P t u v with
        | some r => bif okD n o.dst then some (o.dst, r) else none
        | none => none
      | _, _ => none
    | some true, .binOp .neq t x y _ => match vl s x, vl s y with
      | some u, some v => match eqP P t u v with
        | some r => bif okD n o.dst then some (o.dst, !r) else none
        | none => none
      | _, _ => none
    | _, _ => none
  | none => none
theorem y_eq {dst : Option Tmp} {r : Bool} (h : eqS P cx.n l k s = some (dst, r)) : Yld P cx M Mk s l k dst (.bool r) := by
  unfold eqS at h
  cases ho : l[k]? with
  | none => rw [ho] at h; cases h
  | some oo =>
    rw [ho] at h
    simp only at h
    cases hg : guardS l s oo.guard with
    | none => rw [hg] at h; cases h
    | some c =>
      cases c with
      | false => rw [hg] at h; cases h
      | true =>
        rw [hg] at h
        obtain ⟨od, op, ty, pos, af, gd⟩ := oo
        cases op <;> first | (cases h; done) | skip
        rename_i bop t x y tt
        cases bop <;> first | (cases h; done) | skip
        all_goals
          simp only at h
          cases hx : vl s x with
          | none => rw [hx] at h; cases h
          | some u =>
          cases hy : vl s y with
          | none => rw [hx, hy] at h; cases h
          | some v =>
          rw [hx, hy] at h
          simp only at h
          cases he : eqP P t u v with
          | none => rw [he] at h; cases h
          | some q =>
          rw [he] at h
          simp only at h
          cases hd : okD cx.n od with
          | false => rw [hd] at h; cases h
          | true =>
          rw [hd] at h
          simp only [cond_true, Option.some.injEq, Prod.mk.injEq] at h
          obtain ⟨rfl, rfl⟩ := h
          refine yld_of ho hg hd _ (fun a w0 ha w hw => ?_)
          have h1 := (eqP_run (x := x) (y := y) he w).1
          have h2 := (eqP_run (x := x) (y := y) he w).2
          simp only [execOp, ha.evalv hx, ha.evalv hy, Sem.run_bind] at h1 h2 ⊢
          first | (rw [h1]; rfl) | (rw [h2]; rfl)

/-! ### clear -/
def clearS (P : Program) (n : Nat) (l : List Oper) (k : Nat) (s : SS) : Option (Option Addr × Nat × List Value) :=
  match l[k]? with
  | some o => match guardS l s o.guard, o.op, o.dst with
    | some true, .call ⟨.builtin .clear, args, tys⟩, none => match args.toList, tys.toList with
      | [x], [t] => match vl s x, P.underlying t with
        | some (.slice A n _), some (.slice e) => match zeroP P e with
          | some z => bif z.cells.toList.all Value.oneCell' then some (A, n, z.cells.toList) else none
          | none => none
        | _, _ => none
      | _, _ => none
    | _, _, _ => none
  | none => none
def zerosL (zc : List Value) (n : Nat) : List Value := (Builtin.zeroCells zc.toArray n).toList
theorem zerosL_length (zc : List Value) (n : Nat) : (zerosL zc n).length = n * zc.length := by simp [zerosL, Builtin.zeroCells]
theorem zerosL_one (zc : List Value) (n : Nat) (h : zc.all Value.oneCell' = true) : ∀ v ∈ zerosL zc n, v.oneCell' = true := by
  intro v hv
  simp only [zerosL, Builtin.zeroCells, Array.toList_map, List.mem_map] at hv
  obtain ⟨i, hi, rfl⟩ := hv
  have hi : i < n * zc.length := by simpa using hi
  have hp : 0 < zc.length := by
    rcases Nat.eq_zero_or_pos zc.length with h0 | h0
    · rw [h0] at hi; omega
    · exact h0
  have hm := Nat.mod_lt i hp
  have : zc.toArray[i % zc.toArray.size]! = zc[i % zc.length] := by simp [hm]
  rw [this]
  exact List.all_eq_true.1 h _ (List.getElem_mem hm)
theorem setL_self {i b t : Nat} {cs : List Value} : ∀ {L : List (Nat × SO)}, lk L i = some (.cells b cs t) → setL L i cs = L
  | (j, x) :: r, h => by
    simp only [lk, setL] at h ⊢
    cases hb : Nat.beq j i with
    | true =>
      rw [hb] at h
      simp only [cond_true, Option.some.injEq] at h ⊢
      subst h
      have := Nat.eq_of_beq_eq_true hb
      subst this; rfl
    | false =>
      rw [hb] at h
      simp only [cond_false] at h ⊢
      rw [setL_self h]
theorem inL_nil (cs : List Value) (o : Nat) : inL cs o [] = cs := by simp [inL]
theorem o_clear (i : Nat) {b o n t : Nat} {cs zc : List Value} (h : clearS P cx.n l k s = some (some ⟨b, o, none⟩, n, zc)) (hl : lk s.L i = some (.cells b cs t)) (hle : o + n * zc.length ≤ cs.length)
    (K : J cx M ⟨s.S, setL s.L i (inL cs o (zerosL zc n)), s.R, s.nx⟩ X) : OpJ P cx M s l Q k X := by
  unfold clearS at h
  cases ho : l[k]? with
  | none => rw [ho] at h; cases h
  | some oo =>
    rw [ho] at h
    simp only at h
    cases hg : guardS l s oo.guard with
    | none => rw [hg] at h; cases h
    | some c =>
      cases c with
      | false => rw [hg] at h; cases h
      | true =>
        rw [hg] at h
        obtain ⟨od, op, ty, pos, af, gd⟩ := oo
        cases op <;> first | (cases h; done) | skip
        rename_i c
        obtain ⟨callee, cargs, cts⟩ := c
        cases od with
        | some d => cases callee <;> first | (cases h; done) | (rename_i bi; cases bi <;> cases h)
        | none =>
        cases callee <;> first | (cases h; done) | skip
        rename_i bi
        cases bi <;> first | (cases h; done) | skip
        simp only at h
        cases cargs with | mk cargs =>
        cases cts with | mk cts =>
        rcases cargs with _ | ⟨x, _ | ⟨y, _⟩⟩ <;> first | (cases h; done) | skip
        rcases cts with _ | ⟨tt, _ | ⟨t', _⟩⟩ <;> first | (cases h; done) | skip
        simp only at h
        cases hx : vl s x with
        | none => rw [hx] at h; cases h
        | some xv =>
        cases hu : P.underlying tt with
        | none => rw [hx, hu] at h; cases xv <;> cases h
        | some d =>
        rw [hx, hu] at h
        cases xv <;> first | (cases h; done) | skip
        cases d <;> first | (cases h; done) | skip
        rename_i A' n' c' e
        simp only at h
        cases hz : zeroP P e with
        | none => rw [hz] at h; cases h
        | some z =>
        rw [hz] at h
        simp only at h
        cases hone : z.cells.toList.all Value.oneCell' with
        | false => rw [hone] at h; cases h
        | true =>
        rw [hone] at h
        simp only [cond_true, Option.some.injEq, Prod.mk.injEq] at h
        obtain ⟨rfl, rfl, rfl⟩ := h
        intro a w ha
        have hst := ha.st
        have hb : w.heap[b]? = some (.cells cs.toArray t (0, 0)) := hst.obj _ (lk_mem hl)
        refine ⟨_, ho, guardS_wanted ha hg, ?_⟩
        have hrun : ∃ w', (Builtin.clear_ #[tt] ty #[.slice (some ⟨b, o, none⟩) n' c']).run P w = .ok (.tuple #[]) w' ∧ w' = w.setRow b (inL cs o (zerosL z.cells.toList n')).toArray := by
          cases n' with
          | zero =>
            refine ⟨_, ?_, rfl⟩
            have : zerosL z.cells.toList 0 = [] := by simp [zerosL, Builtin.zeroCells]
            rw [this, inL_nil, setRow_self w b cs.toArray t (0, 0) hb]
            simp [Builtin.clear_, run_underlying hu]
          | succ m =>
            refine ⟨_, ?_, rfl⟩
            have hst := run_storeCells_at P b o t (zerosL z.cells.toList (m + 1)) 0 cs.toArray w hb (by rw [zerosL_length]; simpa using hle) (zerosL_one _ _ hone)
            simp only [Builtin.clear_, Sem.run_bind, run_underlying hu, Result.andThen_ok, zeroP_run hz]
            have e : (Builtin.zeroCells z.cells (m + 1)).toList = zerosL z.cells.toList (m + 1) := by simp [zerosL]
            simp [e, zeroP_run hz, run_underlying hu, hst, inL]
        obtain ⟨w', hrun, rfl⟩ := hrun
        unfold Oper.wp execOp
        simp only [resolve, invoke, builtin, Sem.run_bind, Sem.run_pure, Result.andThen_ok, List.map_toArray, List.map_cons, List.map_nil, ha.evalv hx, hrun]
        refine K _ _ ⟨ha.size, ha.defers, ha.slots, fun t' i' b'' off' ht => ?_, fun i' so hi => ?_, ?_⟩
        · obtain ⟨so, h3, h4⟩ := ha.locs t' i' b'' off' ht
          obtain ⟨so', h5, h6⟩ := setL_lk (b := b) (cs := cs) (t := t) (d := i) (cs' := inL cs o (zerosL z.cells.toList n')) i' so h3
          exact ⟨so', h5, h6.trans h4⟩
        · obtain ⟨so', h5⟩ := setL_ids (d := i) (cs' := inL cs o (zerosL z.cells.toList n')) i' so hi
          exact ha.ids i' so' h5
        · refine hst.write hl (setRow_heap w b cs.toArray _ t (0, 0) hb) (fun kk hk => ?_) ?_ rfl rfl rfl
          · simp [World.setRow, Array.getElem?_modify, Ne.symm hk]
          · simp [World.setRow]
theorem g_clear (i : Nat) {b o n t : Nat} {cs zc : List Value} (h : clearS P cx.n l k s = some (some ⟨b, o, none⟩, n, zc)) (hl : lk s.L i = some (.cells b cs t)) (hle : o + n * zc.length ≤ cs.length)
    (K : J cx M ⟨s.S, setL s.L i (inL cs o (zerosL zc n)), s.R, s.nx⟩ (wpList P l.toArray Q (l.drop (k + 1)))) : J cx M s (wpList P l.toArray Q (l.drop k)) := g_op (o_clear i h hl hle K)
end rules
end Go.Eng
