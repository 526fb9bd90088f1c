/- THE ENGINE, part 2: the rules by which a proof walks. -/
import Derived.Test.YtpnkncinmoogpaaGreatDoorChEng
set_option linter.unusedVariables false
namespace Go.Eng
open Go Go.RowKit

/-! ### what is dropped -/
def memN : List Nat → Nat → Bool
  | [], _ => false
  | i :: r, d => bif Nat.beq i d then true else memN r d
def selS (S : List (Nat × SV)) : List Nat → List (Nat × SV)
  | [] => []
  | t :: r => match lk S t with
    | some x => (t, x) :: selS S r
    | none => selS S r
def tagsOk (L : List (Nat × SO)) : List (Nat × SV) → Bool
  | [] => true
  | (_, .l i _ _) :: r => (lk L i).isSome && tagsOk L r
  | (_, .v _) :: r => tagsOk L r
def keepIn {α : Type} (keep : List Nat) : List (Nat × α) → List (Nat × α)
  | [] => []
  | (i, x) :: r => bif memN keep i then (i, x) :: keepIn keep r else keepIn keep r
def topId {α : Type} : List (Nat × α) → Nat
  | [] => 0
  | (i, _) :: r => bif Nat.ble (topId r) (i + 1) then i + 1 else topId r
theorem topId_lt {α : Type} : ∀ (l : List (Nat × α)) i x, lk l i = some x → i < topId l
  | [], i, x, h => by cases h
  | (j, y) :: r, i, x, h => by
    rw [lk_cons] at h
    simp only [topId]
    by_cases e : j = i
    · subst e
      cases hb : Nat.ble (topId r) (j + 1) with
      | true => exact Nat.lt_succ_self _
      | false =>
        have : ¬ (topId r ≤ j + 1) := fun hle => by rw [Nat.ble_eq_true_of_le hle] at hb; cases hb
        simp only [cond_false]; omega
    · rw [if_neg e] at h
      have := topId_lt r i x h
      cases hb : Nat.ble (topId r) (j + 1) with
      | true => have := Nat.le_of_ble_eq_true hb; simp only [cond_true]; omega
      | false => exact this
/-- The live slots, the kept blocks, the kept rows. -/
def fin (live keep rows : List Nat) (s : SS) : Option SS :=
  bif tagsOk (keepIn keep s.L) (selS s.S live) then some ⟨selS s.S live, keepIn keep s.L, keepIn rows s.R, topId (keepIn keep s.L)⟩ else none

theorem selS_lk (S : List (Nat × SV)) : ∀ (live : List Nat) t x, lk (selS S live) t = some x → lk S t = some x := by
  intro live
  induction live with
  | nil => intro t x h; cases h
  | cons d r ih =>
    intro t x h
    simp only [selS] at h
    cases hd : lk S d with
    | none => rw [hd] at h; exact ih t x h
    | some y =>
      rw [hd] at h
      simp only [lk_cons] at h
      by_cases e : d = t
      · rw [if_pos e] at h
        subst e
        rw [← h]; exact hd
      · rw [if_neg e] at h
        exact ih t x h
theorem keepIn_sub {α : Type} (keep : List Nat) : ∀ (l : List (Nat × α)), (keepIn keep l).Sublist l
  | [] => List.Sublist.slnil
  | (i, x) :: r => by
    simp only [keepIn]
    cases memN keep i with
    | true => exact (keepIn_sub keep r).cons_cons _
    | false => exact (keepIn_sub keep r).cons _
theorem keepIn_lk {α : Type} (keep : List Nat) : ∀ (l : List (Nat × α)) i x, lk (keepIn keep l) i = some x → lk l i = some x
  | [], i, x, h => h
  | (j, y) :: r, i, x, h => by
    simp only [keepIn] at h
    cases hm : memN keep j with
    | true =>
      rw [hm] at h
      simp only [cond_true, lk_cons] at h ⊢
      by_cases e : j = i
      · rw [if_pos e] at h ⊢; exact h
      · rw [if_neg e] at h ⊢; exact keepIn_lk keep r i x h
    | false =>
      rw [hm] at h
      simp only [cond_false] at h
      rw [lk_cons]
      by_cases e : j = i
      · subst e
        exfalso
        have : ∀ (l : List (Nat × α)), lk (keepIn keep l) j = none := by
          intro l
          induction l with
          | nil => rfl
          | cons p q ihq =>
            obtain ⟨k, z⟩ := p
            simp only [keepIn]
            cases hk : memN keep k with
            | true =>
              simp only [cond_true, lk_cons]
              rw [if_neg (fun e => by subst e; rw [hm] at hk; cases hk)]
              exact ihq
            | false => exact ihq
        rw [this r] at h
        cases h
      · rw [if_neg e]; exact keepIn_lk keep r i x h
theorem tagsOk_spec {L : List (Nat × SO)} : ∀ {S : List (Nat × SV)}, tagsOk L S = true → ∀ t i b off, lk S t = some (.l i b off) → (lk L i).isSome = true
  | [], _, t, i, b, off, h => by cases h
  | (d, x) :: r, hk, t, i, b, off, h => by
    rw [lk_cons] at h
    cases x with
    | v u =>
      simp only [tagsOk] at hk
      by_cases e : d = t
      · rw [if_pos e] at h; cases h
      · rw [if_neg e] at h; exact tagsOk_spec hk t i b off h
    | l i' b' off' =>
      simp only [tagsOk, Bool.and_eq_true] at hk
      by_cases e : d = t
      · rw [if_pos e] at h
        injection h with h
        injection h with h1 h2 h3
        subst h1
        exact hk.1
      · rw [if_neg e] at h; exact tagsOk_spec hk.2 t i b off h

theorem blks_sub {L L' : List (Nat × SO)} {R R' : List (Nat × RowI)} (h1 : L'.Sublist L) (h2 : R'.Sublist R) : (blks L' R').Sublist (blks L R) :=
  List.Sublist.append (h1.map _) (h2.filterMap _)
theorem St.sub {cx : Cx} {M : Mem} {L L' : List (Nat × SO)} {R R' : List (Nat × RowI)} {w : World} (h : St cx M L R w) (h1 : L'.Sublist L) (h2 : R'.Sublist R) : St cx M L' R' w :=
  ⟨h.ext, fun p hp => h.obj p (h1.subset hp), fun p hp => h.row p (h2.subset hp), h.nodup.sublist (blks_sub h1 h2), fun b hb => h.free b ((blks_sub h1 h2).subset hb)⟩
theorem Holds.fin {cx : Cx} {M : Mem} {s s' : SS} {a : Act} {w : World} (h : Holds cx M s a w) {live keep rows : List Nat} (hf : fin live keep rows s = some s') : Holds cx M s' a w := by
  unfold Eng.fin at hf
  cases ht : tagsOk (keepIn keep s.L) (selS s.S live) with
  | false => rw [ht] at hf; cases hf
  | true =>
    rw [ht] at hf
    simp only [cond_true, Option.some.injEq] at hf
    subst hf
    refine ⟨h.size, h.defers, fun t x hx => h.slots t x (selS_lk _ _ t x hx), fun t i b off hx => ?_, fun i so hi => topId_lt _ i so hi, h.st.sub (keepIn_sub _ _) (keepIn_sub _ _)⟩
    obtain ⟨so, h1, h2⟩ := h.locs t i b off (selS_lk _ _ t _ hx)
    obtain ⟨so', h3⟩ := Option.isSome_iff_exists.1 (tagsOk_spec ht t i b off hx)
    have h4 := keepIn_lk _ _ i so' h3
    rw [h1] at h4
    injection h4 with h4
    subst h4
    exact ⟨so, h3, h2⟩

section rules
variable {P : Program} {cx : Cx} {M : Mem} {s : SS} {l : List Oper} {k : Nat} {Q : Exit → Act → World → Prop} {X : Act → World → Prop}

/-! ### any judgement -/
theorem g_fin (live keep rows : List Nat) (s' : SS) (h : fin live keep rows s = some s') (K : J cx M s' X) : J cx M s X := fun a w ha => K a w (ha.fin h)
/-- A slot that holds a Bool: either way. -/
theorem g_bool (t : Nat) (c : Bool) (h : lk s.S t = some (.v (.bool c))) (ht : c = true → J cx M ⟨(t, .v (.bool true)) :: s.S, s.L, s.R, s.nx⟩ X) (hf : c = false → J cx M ⟨(t, .v (.bool false)) :: s.S, s.L, s.R, s.nx⟩ X) : J cx M s X := by
  intro a w ha
  have key : ∀ c', c = c' → Holds cx M ⟨(t, .v (.bool c')) :: s.S, s.L, s.R, s.nx⟩ a w := by
    rintro _ rfl
    refine ⟨ha.size, ha.defers, fun d x hx => ?_, fun d i b off hx => ?_, ha.ids, ha.st⟩
    · rw [lk_cons] at hx
      by_cases e : t = d
      · rw [if_pos e] at hx
        injection hx with hx
        subst e; subst hx
        exact ha.slots t _ h
      · rw [if_neg e] at hx; exact ha.slots d x hx
    · rw [lk_cons] at hx
      by_cases e : t = d
      · rw [if_pos e] at hx; cases hx
      · rw [if_neg e] at hx; exact ha.locs d i b off hx
  cases c with
  | true => exact ht rfl a w (key true rfl)
  | false => exact hf rfl a w (key false rfl)

/-- A slot's value, spelt otherwise. -/
theorem g_val (t : Nat) {v : Value} (v' : Value) (h : lk s.S t = some (.v v)) (e : v = v') (K : J cx M ⟨(t, .v v') :: s.S, s.L, s.R, s.nx⟩ X) : J cx M s X := by
  subst e
  intro a w ha
  refine K a w ⟨ha.size, ha.defers, fun d x hx => ?_, fun d i b off hx => ?_, ha.ids, ha.st⟩
  · rw [lk_cons] at hx
    by_cases e : t = d
    · rw [if_pos e] at hx
      injection hx with hx
      subst e; subst hx
      exact ha.slots t _ h
    · rw [if_neg e] at hx; exact ha.slots d x hx
  · rw [lk_cons] at hx
    by_cases e : t = d
    · rw [if_pos e] at hx; cases hx
    · rw [if_neg e] at hx; exact ha.locs d i b off hx

/-! ### a region, in the text's order -/
theorem g_region {id : Nat} (K : J cx M s (wpList P l.toArray Q (l.drop 0))) : J cx M s ((Code.region id l.toArray false).wp P Q) := fun a w h => wp_region_lit (K a w h)
/-- m operations at one go. -/
theorem g_exec (m : Nat) (live keep rows : List Nat) (s' : (Nat → Nat) → SS) (h : ∀ f, ((execN P cx.n l f m (l.drop k) k s).bind (fin live keep rows)) = some (s' f)) (K : ∀ f, J cx M (s' f) (wpList P l.toArray Q (l.drop (k + m)))) : J cx M s (wpList P l.toArray Q (l.drop k)) := by
  intro a w ha
  have hex : ∀ f, ∃ s1, execN P cx.n l f m (l.drop k) k s = some s1 ∧ fin live keep rows s1 = some (s' f) := fun f => by
    have := h f
    cases he : execN P cx.n l f m (l.drop k) k s with
    | none => rw [he] at this; cases this
    | some s1 => rw [he] at this; exact ⟨s1, rfl, this⟩
  refine execN_sound m (l.drop k) k s a w (fun _ => 0) (fun f => Classical.choose (hex f)) (fun f _ => (Classical.choose_spec (hex f)).1) ha (fun f a' w' h' => ?_)
  rw [List.drop_drop]
  exact K f a' w' (h'.fin (Classical.choose_spec (hex f)).2)
theorem g_end (hk : l.length = k) (K : J cx M s (Q .normal)) : J cx M s (wpList P l.toArray Q (l.drop k)) := by
  intro a w ha
  rw [← hk, List.drop_length]
  exact K a w ha

theorem drop_of {α : Type} {l : List α} {k : Nat} {o : α} (h : l[k]? = some o) : l.drop k = o :: l.drop (k + 1) := by
  obtain ⟨hlt, he⟩ := List.getElem?_eq_some_iff.1 h
  rw [List.drop_eq_getElem_cons hlt, he]

/-- Operation k is carried out, and then K. -/
def OpJ (P : Program) (cx : Cx) (M : Mem) (s : SS) (l : List Oper) (Q : Exit → Act → World → Prop) (k : Nat) (K : Act → World → Prop) : Prop :=
  ∀ a w, Holds cx M s a w → ∃ o, l[k]? = some o ∧ Region.wanted o (yielded l.toArray a.tmps) = true ∧ o.wp P a w K Q
theorem g_op (h : OpJ P cx M s l Q k (wpList P l.toArray Q (l.drop (k + 1)))) : J cx M s (wpList P l.toArray Q (l.drop k)) := by
  intro a w ha
  obtain ⟨o, ho, hw, hwp⟩ := h a w ha
  rw [drop_of ho]
  unfold wpList
  rw [if_pos hw]
  exact .inl hwp

/-! ### a call -/
def RetPost (bs : List Nat) (w0 : World) (M0 : Mem) (Post : Value → Mem → Prop) (D : Prop := False) : Ending → World → Prop := fun e w' => ∃ v M', e = .returned v ∧ Ext bs w0 M0 w' M' D ∧ Post v M'
/-- A contract: called in w, what is known being M, g comes back with a value of which Post holds. -/
def Ct (P : Program) (g : Nat) (args : List Value) (bs : List Nat) (w : World) (M : Mem) (Post : Value → Mem → Prop) (D : Prop := False) : Prop := Calls P g args.toArray w (RetPost bs w M Post D)

def goes (P : Program) (g : Nat) : Bool := match P.funcs[g]? with
  | some fn => fn.body.isSome && !(fn.name == "runtime.NumGoroutine")
  | none => false
theorem goes_run {g : Nat} (h : goes P g = true) (args : Array Value) (w : World) : (callFunc g args).run P w = .ok (.enter g args) w := by
  unfold goes at h
  cases hf : P.funcs[g]? with
  | none => rw [hf] at h; cases h
  | some fn =>
    rw [hf] at h
    simp only [Bool.and_eq_true, Bool.not_eq_true'] at h
    obtain ⟨h1, h2⟩ := h
    have h3 : ¬ (fn.name = "runtime.NumGoroutine") := fun e => by rw [e] at h2; simp at h2
    have h4 : fn.body ≠ none := fun e => by rw [e] at h1; cases h1
    simp [callFunc, hf, h3, h4]
/-- The call at place k: where its result goes, the function's number, the arguments. -/
def callS (P : Program) (n : Nat) (l : List Oper) (k : Nat) (s : SS) : Option (Option Tmp × Nat × List Value) :=
  match l[k]? with
  | some o => match guardS l s o.guard, o.op with
    | some true, .call ⟨.value f, args, _⟩ => match vl s f, vls s args.toList with
      | some (.func (.func g) fs lb), some vs => bif okD n o.dst then some (o.dst, g, fs.toList ++ vs ++ lb.toList) else none
      | _, _ => none
    | _, _ => none
  | none => none

/-- What a step by a call leaves. -/
theorem Holds.called {a : Act} {w w' : World} {M' : Mem} (h : Holds cx M s a w) {dst : Option Tmp} (hd : okD cx.n dst = true) (he : Ext [] w M w' M' cx.D) (v : Value) : Holds cx M' ⟨putS dst (.v v) s.S, s.L, s.R, s.nx⟩ (a.put dst v) w' := by
  have hst := h.st
  have hlt := hst.lt
  have hb := he.below
  refine h.put dst (.v v) hd (fun _ _ _ e => by cases e) (fun i so hi => ⟨so, hi, rfl⟩) h.ids ?_
  refine ⟨hst.ext.trans' he (fun b hm => by cases hm), fun p hp => ?_, fun p hp => ?_, hst.nodup, fun b hbm => ⟨(hst.free b hbm).1, fun ad ha => ?_⟩⟩
  · rw [hb.block p.2.b (hlt _ (by simp only [blks, List.mem_append, List.mem_map]; exact .inl ⟨p, hp, rfl⟩))]
    exact hst.obj p hp
  · exact (hst.row p hp).kept (row := none) ⟨hb.os, hb.tape, hb.output, hb.size, fun k hk _ => hb.block k hk⟩ (by cases hv : p.2.v.ownBlock <;> simp)
  · rw [he.new ad (by rw [ha]; exact hlt b hbm) (by simp)]
    exact (hst.free b hbm).2 ad ha

theorem callS_spec {dst : Option Tmp} {g : Nat} {args : List Value} (h : callS P cx.n l k s = some (dst, g, args)) (hgo : goes P g = true) {a : Act} {w : World} (ha : Holds cx M s a w) :
    ∃ o, l[k]? = some o ∧ o.dst = dst ∧ okD cx.n dst = true ∧ Region.wanted o (yielded l.toArray a.tmps) = true ∧ (execOp a.eval o).run P w = .ok (.enter g args.toArray) w := by
  unfold callS at h
  cases ho : l[k]? with
  | none => rw [ho] at h; cases h
  | some o =>
    rw [ho] at h
    simp only at h
    cases hg : guardS l s o.guard with
    | none => rw [hg] at h; cases h
    | some c =>
      cases c with
      | false => rw [hg] at h; cases h
      | true =>
        rw [hg] at h
        obtain ⟨od, op, ty, pos, af, gd⟩ := o
        cases op <;> first | (cases h; done) | skip
        rename_i c
        obtain ⟨callee, cargs, cts⟩ := c
        cases callee <;> first | (cases h; done) | skip
        rename_i f
        simp only at h
        cases hf : vl s f with
        | none => rw [hf] at h; cases h
        | some fv =>
          cases hv : vls s cargs.toList with
          | none => rw [hf, hv] at h; cases fv <;> first | (cases h; done) | (rename_i fn _ _; cases fn <;> cases h)
          | some vs =>
            rw [hf, hv] at h
            cases fv <;> first | (cases h; done) | skip
            rename_i fn fs lb
            cases fn <;> first | (cases h; done) | skip
            rename_i g'
            simp only at h
            cases hk : okD cx.n od with
            | false => rw [hk] at h; cases h
            | true =>
              rw [hk] at h
              simp only [cond_true, Option.some.injEq, Prod.mk.injEq] at h
              obtain ⟨rfl, rfl, rfl⟩ := h
              refine ⟨_, rfl, rfl, hk, guardS_wanted ha hg, ?_⟩
              have h1 : cargs.map a.eval = vs.toArray := by rw [← ha.evals hv, ← Array.toList_map]
              simp only [execOp, resolve, h1, ha.evalv hf, Deferred.ofValue, Sem.run_bind, Sem.run_pure, Result.andThen_ok, invoke]
              rw [goes_run hgo]
              simp

/-- A call of a Go function, by its contract. -/
theorem o_call {dst : Option Tmp} {g : Nat} {args : List Value} (h : callS P cx.n l k s = some (dst, g, args)) (hgo : goes P g = true) (Post : Value → Mem → Prop)
    (C : ∀ w, St cx M s.L s.R w → Ct P g args [] w M Post cx.D)
    (K : ∀ v M', (∀ a u, M a = some u → M' a = some u) → Post v M' → J cx M' ⟨putS dst (.v v) s.S, s.L, s.R, s.nx⟩ X) : OpJ P cx M s l Q k X := by
  intro a w ha
  obtain ⟨o, ho, hd, hok, hw, hrun⟩ := callS_spec h hgo ha
  refine ⟨o, ho, hw, ?_⟩
  unfold Oper.wp
  rw [hrun, Oper.upon_enter]
  refine (C w ha.st).mono ?_
  rintro e w' ⟨v, M', rfl, he, hp⟩
  simp only
  rw [hd]
  exact K v M' he.le hp _ _ (ha.called hok he v)
theorem g_call {dst : Option Tmp} {g : Nat} {args : List Value} (h : callS P cx.n l k s = some (dst, g, args)) (hgo : goes P g = true) (Post : Value → Mem → Prop)
    (C : ∀ w, St cx M s.L s.R w → Ct P g args [] w M Post cx.D)
    (K : ∀ v M', (∀ a u, M a = some u → M' a = some u) → Post v M' → J cx M' ⟨putS dst (.v v) s.S, s.L, s.R, s.nx⟩ (wpList P l.toArray Q (l.drop (k + 1)))) : J cx M s (wpList P l.toArray Q (l.drop k)) :=
  g_op (o_call h hgo Post C K)

/-! ### code -/
theorem g_seq {x y : Code} (K : J cx M s (x.wp P (Exit.then (y.wp P Q) Q))) : J cx M s ((x.seq y).wp P Q) := fun a w h => wp_seq (K a w h)
theorem g_cond {c : Operand} {x y : Code} (b : Bool) (h : vl s c = some (.bool b)) (ht : b = true → J cx M s (x.wp P Q)) (hf : b = false → J cx M s (y.wp P Q)) : J cx M s ((Code.cond c x y).wp P Q) := by
  intro a w ha
  exact wp_cond_split (ha.evalv h) (fun e => ht e a w ha) (fun e => hf e a w ha)
theorem g_block {id : Nat} {c : Code} (K : J cx M s (c.wp P (Exit.inBlock id Q))) : J cx M s ((Code.block id c).wp P Q) := fun a w h => wp_block (K a w h)
theorem g_skip (K : J cx M s (Q .normal)) : J cx M s (Code.skip.wp P Q) := fun a w h => wp_skip (K a w h)
theorem g_exit {id : Nat} (K : J cx M s (Q (.exit id))) : J cx M s ((Code.exit id).wp P Q) := fun a w h => wp_exit (K a w h)
theorem g_ret (K : J cx M s (Q .ret)) : J cx M s (Code.ret.wp P Q) := fun a w h => wp_ret (K a w h)
theorem g_loop (n : Nat) {c : Code} (K : J cx M s (Code.rounds P c Q n)) : J cx M s ((Code.loop c).wp P Q) := fun a w h => wp_loop_rounds n (K a w h)
theorem g_round {n : Nat} {c : Code} (K : J cx M s (c.wp P (Exit.then (Code.rounds P c Q n) Q))) : J cx M s (Code.rounds P c Q (n + 1)) := K
/-- The next round's state is one of the loop's, and a smaller one. -/
def Again {ι : Type} (cx : Cx) (Inv : ι → Mem → SS → Prop) (m : ι → Nat) (i : ι) : Act → World → Prop := fun a w => ∃ i' M' s', Inv i' M' s' ∧ m i' < m i ∧ Holds cx M' s' a w
theorem g_while {ι : Type} (Inv : ι → Mem → SS → Prop) (m : ι → Nat) (i0 : ι) {c : Code} (h0 : Inv i0 M s) (R : ∀ i M s, Inv i M s → J cx M s (c.wp P (Exit.then (Again cx Inv m i) Q))) : J cx M s ((Code.loop c).wp P Q) := by
  intro a w ha
  have key : ∀ (n : Nat) (i : ι) (M : Mem) (s : SS) a w, m i < n → Inv i M s → Holds cx M s a w → Code.rounds P c Q n a w := by
    intro n
    induction n with
    | zero => intro i M s a w hn; omega
    | succ n ih =>
      intro i M s a w hn hi hs
      rw [rounds_succ]
      refine wp_mono (R i M s hi a w hs) fun e a' w' q => ?_
      cases e with
      | normal =>
        obtain ⟨i', M', s', hi', hm, hs'⟩ := q
        exact ih i' M' s' a' w' (by omega) hi' hs'
      | _ => exact q
  exact wp_loop_rounds (m i0 + 1) (key (m i0 + 1) i0 M s a w (Nat.lt_succ_self _) h0 ha)
theorem g_again {ι : Type} {Inv : ι → Mem → SS → Prop} {m : ι → Nat} {i : ι} (i' : ι) (h : Inv i' M s) (hm : m i' < m i) : J cx M s (Again cx Inv m i) := fun a w ha => ⟨i', M, s, h, hm, ha⟩
theorem n_then {X : Act → World → Prop} (K : J cx M s X) : J cx M s (Exit.then X Q .normal) := K
theorem n_then_ret {X : Act → World → Prop} (K : J cx M s (Q .ret)) : J cx M s (Exit.then X Q .ret) := K
theorem n_then_exit {X : Act → World → Prop} {id : Nat} (K : J cx M s (Q (.exit id))) : J cx M s (Exit.then X Q (.exit id)) := K
theorem n_block {id : Nat} (K : J cx M s (Q .normal)) : J cx M s (Exit.inBlock id Q .normal) := K
theorem n_block_ret {id : Nat} (K : J cx M s (Q .ret)) : J cx M s (Exit.inBlock id Q .ret) := K
theorem n_block_exit {id : Nat} (K : J cx M s (Q .normal)) : J cx M s (Exit.inBlock id Q (.exit id)) := fun a w h => by
  show if id = id then _ else _
  rw [if_pos rfl]
  exact K a w h
theorem n_block_other {id id' : Nat} (hne : Nat.beq id' id = false) (K : J cx M s (Q (.exit id'))) : J cx M s (Exit.inBlock id Q (.exit id')) := fun a w h => by
  show if id' = id then _ else _
  rw [if_neg (fun e => by subst e; simp at hne)]
  exact K a w h

/-! ### the end -/
def resV (P : Program) (s : SS) : ResultVar → Option Value
  | .tmp t => vl s (.tmp t)
  | .cell t ty => match lk s.S t with
    | some (.l i _ off) => match lk s.L i with
      | some (.cells _ cs _) => varP P ty cs off
      | _ => none
    | _ => none
def resVs (P : Program) (s : SS) : List ResultVar → Option (List Value)
  | [] => some []
  | r :: rs => match resV P s r, resVs P s rs with
    | some v, some vs => some (v :: vs)
    | _, _ => none
def resS (P : Program) (fn : Func) (s : SS) : Option Value :=
  match resVs P s fn.results.toList with
  | some [v] => some v
  | some vs => some (.tuple vs.toArray)
  | none => none
def resM (tmps : Array Value) : ResultVar → Sem Value
  | .tmp t => pure (tmps.getD t undef)
  | .cell c t => do loadVar t (← asAddr (tmps.getD c undef))
theorem results_eq (fn : Func) (tmps : Array Value) : results fn tmps = (do let vs ← fn.results.mapM (resM tmps); pure (if h : vs.size = 1 then vs[0] else .tuple vs)) := by
  unfold results
  have : (fun (r : ResultVar) => (match r with | .tmp t => (pure (tmps.getD t undef) : Sem Value) | .cell a t => do loadVar t (← asAddr (tmps.getD a undef)))) = resM tmps := by
    funext r; cases r <;> rfl
  rw [← this]
  rfl
theorem resV_run {a : Act} {w : World} (ha : Holds cx M s a w) {r : ResultVar} {v : Value} (h : resV P s r = some v) : (resM a.tmps r).run P w = .ok v w := by
  cases r with
  | tmp t =>
    have := ha.evalv (x := .tmp t) h
    simp only [Act.eval] at this
    simp only [resM, this, Sem.run_pure]
  | cell t ty =>
    simp only [resV] at h
    cases ht : lk s.S t with
    | none => rw [ht] at h; cases h
    | some x =>
      rw [ht] at h
      cases x with
      | v u => cases h
      | l i b off =>
        simp only at h
        cases hl : lk s.L i with
        | none => rw [hl] at h; cases h
        | some so =>
          rw [hl] at h
          cases so with
          | obj _ _ => cases h
          | cells b' cs e =>
            simp only at h
            obtain ⟨so, h1, h2⟩ := ha.locs t i b off ht
            rw [hl] at h1
            injection h1 with h1
            subst h1
            have hb' : b' = b := h2
            subst hb'
            simp only [resM, (ha.slots t _ ht).2, SV.val, asAddr, Sem.run_bind, Sem.run_pure, Result.andThen_ok]
            exact varP_run h (ha.st.obj _ (lk_mem hl))
theorem resS_run {a : Act} {w : World} (ha : Holds cx M s a w) {fn : Func} {v : Value} (h : resS P fn s = some v) : (results fn a.tmps).run P w = .ok v w := by
  have key : ∀ (rs : List ResultVar) (vs : List Value), resVs P s rs = some vs → (rs.mapM (resM a.tmps)).run P w = .ok vs w := by
    intro rs
    induction rs with
    | nil => intro vs hv; simp only [resVs, Option.some.injEq] at hv; subst hv; simp
    | cons r rs ih =>
      intro vs hv
      simp only [resVs] at hv
      cases h1 : resV P s r with
      | none => rw [h1] at hv; cases hv
      | some u =>
        cases h2 : resVs P s rs with
        | none => rw [h1, h2] at hv; cases hv
        | some us =>
          rw [h1, h2] at hv
          simp only [Option.some.injEq] at hv
          subst hv
          simp only [List.mapM_cons, Sem.run_bind, resV_run ha h1, Result.andThen_ok, ih us h2, Sem.run_pure]
  unfold resS at h
  cases hr : resVs P s fn.results.toList with
  | none => rw [hr] at h; cases h
  | some vs =>
    rw [hr] at h
    have hm := key _ _ hr
    rw [results_eq, Array.mapM_eq_mapM_toList]
    simp only [Sem.run_bind, Sem.run_map, hm, Result.andThen_ok, Sem.run_pure]
    rcases vs with _ | ⟨x, _ | ⟨y, r⟩⟩
    · simp only [Option.some.injEq] at h
      subst h
      simp
    · simp only [Option.some.injEq] at h
      subst h
      simp
    · simp only [Option.some.injEq] at h
      subst h
      simp
theorem n_done {fn : Func} {R : Ending → World → Prop} (v : Value) (h : resS P fn s = some v) (K : ∀ w, St cx M s.L s.R w → R (.returned v) w) : J cx M s (bodyPost P fn R .ret) := fun a w ha => ⟨ha.defers, v, resS_run ha h, K w ha.st⟩
theorem n_done' {fn : Func} {R : Ending → World → Prop} (v : Value) (h : resS P fn s = some v) (K : ∀ w, St cx M s.L s.R w → R (.returned v) w) : J cx M s (bodyPost P fn R .normal) := fun a w ha => ⟨ha.defers, v, resS_run ha h, K w ha.st⟩
/-- The end of a function, its contract's Post being known. -/
theorem n_post {fn : Func} {n : Nat} {bs : List Nat} {w0 : World} {M0 : Mem} {D : Prop} {Post : Value → Mem → Prop} (v : Value) (h : resS P fn s = some v) (K : Post v M) : J ⟨n, bs, w0, M0, D⟩ M s (bodyPost P fn (RetPost bs w0 M0 Post D) .ret) :=
  n_done v h fun w hst => ⟨v, M, rfl, hst.ext, K⟩
theorem n_post' {fn : Func} {n : Nat} {bs : List Nat} {w0 : World} {M0 : Mem} {D : Prop} {Post : Value → Mem → Prop} (v : Value) (h : resS P fn s = some v) (K : Post v M) : J ⟨n, bs, w0, M0, D⟩ M s (bodyPost P fn (RetPost bs w0 M0 Post D) .normal) :=
  n_done' v h fun w hst => ⟨v, M, rfl, hst.ext, K⟩
end rules

/-! ### the beginning -/
def argS : Nat → List Value → List (Nat × SV)
  | _, [] => []
  | i, v :: r => (i, .v v) :: argS (i + 1) r
theorem argS_lk : ∀ (vs : List Value) (i t : Nat) (x : SV), lk (argS i vs) t = some x → i ≤ t ∧ ∃ v, vs[t - i]? = some v ∧ x = .v v
  | [], i, t, x, h => by cases h
  | v :: r, i, t, x, h => by
    simp only [argS, lk_cons] at h
    by_cases e : i = t
    · rw [if_pos e] at h
      injection h with h
      subst e; subst h
      exact ⟨Nat.le_refl _, v, by simp, rfl⟩
    · rw [if_neg e] at h
      obtain ⟨h1, u, h2, h3⟩ := argS_lk r (i + 1) t x h
      refine ⟨by omega, u, ?_, h3⟩
      rw [show t - i = (t - (i + 1)) + 1 by omega]
      exact h2
/-- Entering a function: no block is lent. -/
theorem enter {P : Program} {g n : Nat} {fn : Func} {c : Code} (hf : P.funcs[g]? = some fn) (hb : fn.body = some c) (hn : fn.ntmps = n) (args : List Value) (ha : Nat.ble args.length n = true) {w : World} {M : Mem} (hM : Sat M w) {D : Prop} {Post : Value → Mem → Prop}
    (K : J ⟨n, [], w, M, D⟩ M ⟨argS 0 args, [], [], 0⟩ (c.wp P (bodyPost P fn (RetPost [] w M Post D)))) : Ct P g args [] w M Post D := by
  have hle := Nat.le_of_ble_eq_true ha
  refine calls_of_wp hf hb (K _ w ⟨?_, rfl, fun t x hx => ?_, fun t i b off hx => ?_, (fun i so hi => by cases hi), ⟨Ext.refl [] hM, (fun p hp => by cases hp), (fun p hp => by cases hp), List.nodup_nil, (fun b hb => by cases hb)⟩⟩)
  · simp [hn]; omega
  · obtain ⟨_, v, h2, rfl⟩ := argS_lk args 0 t x hx
    simp only [Nat.sub_zero] at h2
    obtain ⟨hlt, he⟩ := List.getElem?_eq_some_iff.1 h2
    refine ⟨by show t < n; omega, ?_⟩
    rw [Array.getD_eq_getD_getElem?, Array.getElem?_append_left (by simpa using hlt)]
    simp [h2, SV.val]
  · obtain ⟨_, v, _, h3⟩ := argS_lk args 0 t _ hx
    cases h3
end Go.Eng
