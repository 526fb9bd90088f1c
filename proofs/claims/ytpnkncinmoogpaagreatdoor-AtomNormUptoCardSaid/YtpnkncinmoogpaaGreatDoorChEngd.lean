/- THE ENGINE, part 4: regions that draw their order. -/
import Derived.Test.YtpnkncinmoogpaaGreatDoorChEngc
import Derived.OrdersHeld
import Derived.Deep.RegionHeld3
set_option linter.unusedVariables false
namespace Go.Eng
open Go Go.RowKit

/-- Whatever order is picked from here on; behind every operation that is carried out S holds, but for those of ex. -/
def wpAnyE (P : Program) (ops : Array Oper) (Q : Exit → Act → World → Prop) (S : World → Prop) (ex : List Nat) : Nat → Array Bool → Act → World → Prop
  | 0, listed, a, w => Region.ready .any ops listed = [] ∧ Q .normal a w
  | fuel + 1, listed, a, w =>
    (Region.ready .any ops listed = [] → Q .normal a w) ∧
    ∀ i ∈ Region.ready .any ops listed, wpOp P ops Q i (fun a' w' => (i ∉ ex → S w') ∧ wpAnyE P ops Q S ex fuel (listed.setIfInBounds i true) a' w') a w

theorem wpAny_of_E {P : Program} {ops : Array Oper} {Q : Exit → Act → World → Prop} {S : World → Prop} {ex : List Nat} : ∀ (fuel : Nat) (listed : Array Bool) (a : Act) (w : World), wpAnyE P ops Q S ex fuel listed a w → wpAny P .any ops Q fuel listed a w
  | 0, _, _, _, h => h
  | fuel + 1, _, _, _, h => ⟨h.1, fun i hi => wpOp_mono (fun a' w' h' => wpAny_of_E fuel _ a' w' h'.2) (h.2 i hi)⟩

/-- Operation j waits for i. -/
def waitsOn (ops : List Oper) (j i : Nat) : Bool := match ops[j]? with
  | some o => o.after.toList.any fun e => Region.binds .any e && Nat.beq e.on i
  | none => false

theorem takeE {P : Program} {ops : Array Oper} {Q : Exit → Act → World → Prop} {S : World → Prop} {ex : List Nat} {i : Nat} {oi : Oper} {v : Value} (hi : ops[i]? = some oi) (hsel : ∀ (j : Nat) (o : Oper) cs b, ops[j]? = some o → o.op ≠ .select cs b)
    (hQ : ∀ c a w, Q (.panic c) (a.put oi.dst v) w → Q (.panic c) a w) :
    ∀ (fuel : Nat) (listed : Array Bool) (a : Act) (w : World),
      (∀ j oj, ops[j]? = some oj → j ≠ i → listed.getD j true = false → (∀ e ∈ oj.after, Region.binds .any e = true → e.on ≠ i) → oi.apart ops oj = true ∧ j ∉ ex) →
      i ∈ Region.ready .any ops listed → YieldsIf P ops S oi v a → S w →
      wpAnyE P ops Q S ex fuel (listed.setIfInBounds i true) (a.put oi.dst v) w → wpAnyE P ops Q S ex (fuel + 1) listed a w := by
  intro fuel
  induction fuel with
  | zero =>
    intro listed a w _ hr hy hS H
    refine ⟨fun h => (by rw [h] at hr; cases hr), fun j hj => ?_⟩
    by_cases hji : j = i
    · subst hji; exact hy.wpOp hi hS ⟨fun _ => hS, H⟩
    · have := ready_mono hj hji
      rw [H.1] at this
      cases this
  | succ fuel ih =>
    intro listed a w hfree hr hy hS H
    refine ⟨fun h => (by rw [h] at hr; cases hr), fun j hj => ?_⟩
    by_cases hji : j = i
    · subst hji; exact hy.wpOp hi hS ⟨fun _ => hS, H⟩
    · have h1 := H.2 j (ready_mono hj hji)
      obtain ⟨hjun, oj, hoj, hall⟩ := mem_ready.1 hj
      have hnot : ∀ e ∈ oj.after, Region.binds .any e = true → e.on ≠ i := fun e he hb heq => by
        have h1 := hall e he hb
        have h0 := (mem_ready.1 hr).1
        rw [heq] at h1
        rcases Nat.lt_or_ge i listed.size with h' | h'
        · simp [h'] at h0 h1; rw [h0] at h1; cases h1
        · simp [Array.getElem?_eq_none h'] at h1
      obtain ⟨hap, hex⟩ := hfree j oj hoj hji hjun hnot
      have h2 := wpOp_putIf hoj hap (fun cs b => hsel i oi cs b hi) (fun cs b => hsel j oj cs b hoj) hQ hy h1
      have hfree' : ∀ k ok, ops[k]? = some ok → k ≠ i → (listed.setIfInBounds j true).getD k true = false →
          (∀ e ∈ ok.after, Region.binds .any e = true → e.on ≠ i) → oi.apart ops ok = true ∧ k ∉ ex := fun k ok hk hki hun hno => by
        refine hfree k ok hk hki ?_ hno
        by_cases hjk : j = k
        · subst hjk; exact hjun
        · rw [_root_.Go.getD_set_ne true hjk] at hun; exact hun
      refine wpOp_mono (fun a' w' h3 => ⟨h3.2.1, ih (listed.setIfInBounds j true) a' w' hfree' (ready_mono hr (Ne.symm hji)) h3.1 (h3.2.1 hex) ?_⟩) h2
      rw [Array.setIfInBounds_comm _ _ hji]
      exact h3.2.2

/-! ### what is asked of the region, by the kernel -/
def isIn : List Nat → Nat → Bool
  | [], _ => false
  | i :: r, d => bif Nat.beq i d then true else isIn r d
theorem isIn_mem {l : List Nat} {d : Nat} (h : d ∈ l) : isIn l d = true := by
  induction l with
  | nil => cases h
  | cons i r ih =>
    simp only [isIn]
    cases hb : Nat.beq i d with
    | true => rfl
    | false =>
      rcases List.mem_cons.1 h with rfl | h
      · simp at hb
      · exact ih h
/-- Each operation that hasn't come up and doesn't wait for i is apart from it, and none of ex. -/
def freeE (l : List Oper) (ex : List Nat) (listed : List Bool) (i : Nat) : Bool :=
  match l[i]? with
  | some oi => (List.range l.length).all fun j => Nat.beq j i || listed.getD j true || waitsOn l j i || (match l[j]? with | some oj => oi.apart l.toArray oj && !isIn ex j | none => true)
  | none => false
def readyE (l : List Oper) (listed : List Bool) (i : Nat) : Bool :=
  (!listed.getD i true) && (match l[i]? with | some o => o.after.toList.all fun e => !Region.binds .any e || listed.getD e.on false | none => false)
def noSel (l : List Oper) : Bool := l.all fun o => match o.op with | .select .. => false | _ => true
def setB : List Bool → Nat → List Bool
  | [], _ => []
  | _ :: r, 0 => true :: r
  | x :: r, n + 1 => x :: setB r n
theorem setB_eq : ∀ (l : List Bool) (i : Nat), (setB l i).toArray = l.toArray.setIfInBounds i true
  | [], i => by simp [setB]
  | x :: r, 0 => by simp [setB]
  | x :: r, n + 1 => by
    have := setB_eq r n
    simp only [List.setIfInBounds_toArray, setB] at this ⊢
    simp only [List.set_cons_succ]
    have h2 := congrArg Array.toList this
    simp only at h2
    rw [h2]

theorem readyE_mem {l : List Oper} {listed : List Bool} {i : Nat} (h : readyE l listed i = true) : i ∈ Region.ready .any l.toArray listed.toArray := by
  unfold readyE at h
  simp only [Bool.and_eq_true, Bool.not_eq_true'] at h
  obtain ⟨h1, h2⟩ := h
  cases ho : l[i]? with
  | none => rw [ho] at h2; cases h2
  | some o =>
    rw [ho] at h2
    refine mem_ready.2 ⟨by simpa using h1, o, by simpa using ho, fun e he hb => ?_⟩
    have := List.all_eq_true.1 h2 e (by simpa using he)
    rw [hb] at this
    simpa using this
theorem freeE_spec {l : List Oper} {ex : List Nat} {listed : List Bool} {i : Nat} {oi : Oper} (hi : l[i]? = some oi) (h : freeE l ex listed i = true) : ∀ j oj, l.toArray[j]? = some oj → j ≠ i → listed.toArray.getD j true = false → (∀ e ∈ oj.after, Region.binds .any e = true → e.on ≠ i) → oi.apart l.toArray oj = true ∧ j ∉ ex := by
  intro j oj hj hji hun hno
  unfold freeE at h
  rw [hi] at h
  have hj' : l[j]? = some oj := by simpa using hj
  have hlt : j < l.length := (List.getElem?_eq_some_iff.1 hj').1
  have := List.all_eq_true.1 h j (List.mem_range.2 hlt)
  simp only [Bool.or_eq_true, hj', Bool.and_eq_true, Bool.not_eq_true'] at this
  rcases this with ((h1 | h1) | h1) | h1
  · exact absurd (Nat.eq_of_beq_eq_true h1) hji
  · have hun' : listed.getD j true = false := by simpa using hun
    rw [hun'] at h1; cases h1
  · exfalso
    unfold waitsOn at h1
    rw [hj'] at h1
    obtain ⟨e, he, hb⟩ := List.any_eq_true.1 h1
    simp only [Bool.and_eq_true] at hb
    exact hno e (by simpa using he) hb.1 (Nat.eq_of_beq_eq_true hb.2)
  · exact ⟨h1.1, fun hm => by rw [isIn_mem hm] at h1; exact absurd h1.2 (by simp)⟩

/-! ### the judgement -/
/-- What holds of the world all through the region: M, and the blocks of L. -/
def Know (M : Mem) (L : List (Nat × SO)) (w : World) : Prop := Sat M w ∧ ∀ p ∈ L, w.heap[p.2.b]? = some p.2.o
def XE (P : Program) (l : List Oper) (Q : Exit → Act → World → Prop) (M0 : Mem) (L0 : List (Nat × SO)) (ex : List Nat) (fuel : Nat) (listed : List Bool) : Act → World → Prop := wpAnyE P l.toArray Q (Know M0 L0) ex fuel listed.toArray

section rules
variable {P : Program} {cx : Cx} {M M0 : Mem} {s : SS} {l : List Oper} {k : Nat} {Q : Exit → Act → World → Prop} {X : Act → World → Prop} {L0 : List (Nat × SO)} {ex : List Nat} {fuel : Nat} {listed : List Bool}

theorem Holds.drew {a : Act} {w : World} (h : Holds cx M s a w) : Holds cx M s a { w with drawn := w.drawn + 1 } := by
  have hst := h.st
  refine ⟨h.size, h.defers, h.slots, h.locs, h.ids, ⟨⟨hst.ext.os, hst.ext.tape, hst.ext.output, hst.ext.size, hst.ext.keep, hst.ext.le, fun a v ha => hst.ext.sat a v ha, hst.ext.new, fun d => Nat.le_trans (hst.ext.drawn d) (Nat.le_succ _)⟩, hst.obj, fun p hp => ?_, hst.nodup, hst.free⟩⟩
  exact hst.row p hp

/-- The beginning: keep: the blocks that are read all through the region. -/
theorem d_begin (hm : P.follows .mixedOrders = true) (keep ex : List Nat) (n : Nat) (hn : l.length = n) {id : Nat} (K : J cx M s (XE P l (NoPanic Q) M (keepIn keep s.L) ex n (List.replicate n false))) : J cx M s ((Code.region id l.toArray true).wp P Q) := by
  intro a w ha
  subst hn
  have := K a _ ha.drew
  unfold XE at this
  refine wp_region_noPanic (wp_region_any hm (wpAny_of_E (S := Know M (keepIn keep s.L)) (ex := ex) _ _ _ _ ?_))
  simpa using this

theorem Holds.know {a : Act} {w : World} (h : Holds cx M s a w) (hle : ∀ a u, M0 a = some u → M a = some u) (hL : ∀ p ∈ L0, p ∈ s.L) : Know M0 L0 w :=
  ⟨fun a u ha => h.st.sat a u (hle a u ha), fun p hp => h.st.obj p (hL p hp)⟩

/-- A quiet operation, evaluated in what the region knows. -/
def quietS (P : Program) (n : Nat) (l : List Oper) (L0 : List (Nat × SO)) (s : SS) (o : Oper) : Option SV :=
  bif okD n o.dst then
    match guardS l s o.guard with
    | some true => match o.op with
      | .move x | .assign x => sv s x
      | .pick c x y => match vl s c, sv s x, sv s y with
        | some (.bool c), some x, some y => some (pickS c x y)
        | _, _, _ => none
      | .fieldAddr t x f => match fieldP P t f, sv s x with
        | some fo, some (.l i bb off) => some (.l i bb (off + fo))
        | some fo, some (.v (.pointer (some ad))) => some (.v (.pointer (some (ad.add fo))))
        | _, _ => none
      | .load t x => match sv s x with
        | some (.l i _ off) => match lk L0 i with
          | some (.cells _ cs _) => match varP P t cs off with
            | some v => some (.v v)
            | none => none
          | _ => none
        | _ => none
      | op => match pureP P s op with
        | some v => some (.v v)
        | none => none
    | some false => some (.v undef)
    | none => none
  else none
/-- Quiet operations, taken at once, one by one. -/
def quietN (P : Program) (n : Nat) (l : List Oper) (L0 : List (Nat × SO)) (ex : List Nat) : List Nat → List Bool → SS → Option (SS × List Bool)
  | [], listed, s => some (s, listed)
  | i :: r, listed, s => match l[i]? with
    | some o => match quietS P n l L0 s o with
      | some x => bif readyE l listed i && freeE l ex listed i then quietN P n l L0 ex r (setB listed i) ⟨putS o.dst x s.S, s.L, s.R, s.nx⟩ else none
      | none => none
    | none => none

theorem quietS_yields {a : Act} {w : World} (ha : Holds cx M s a w) (hL : ∀ p ∈ L0, p ∈ s.L) (hids : ∀ i so, lk L0 i = some so → lk s.L i = some so) {o : Oper} {x : SV} (h : quietS P cx.n l L0 s o = some x) :
    YieldsIf P l.toArray (Know M0 L0) o x.val a ∧ okD cx.n o.dst = true ∧ (∀ i b off, x = .l i b off → ∃ so, lk s.L i = some so ∧ so.b = b) := by
  have hd : okD cx.n o.dst = true := by
    cases hd : okD cx.n o.dst with
    | false => unfold quietS at h; rw [hd] at h; cases h
    | true => rfl
  unfold quietS at h
  rw [hd] at h
  simp only [cond_true] at h
  cases hg : guardS l s o.guard with
  | none => rw [hg] at h; cases h
  | some c =>
  rw [hg] at h
  have hw := guardS_wanted ha hg
  cases c with
  | false =>
    simp only [Option.some.injEq] at h
    subst h
    exact ⟨.inr ⟨hw, rfl⟩, hd, fun _ _ _ e => by cases e⟩
  | true =>
  have tagged : ∀ (x : Operand) (y : SV), sv s x = some y → ∀ i b off, y = .l i b off → ∃ so, lk s.L i = some so ∧ so.b = b := by
    intro x y hx i b off e
    subst e
    cases x with
    | tmp t => exact ha.locs t i b off hx
    | const v => simp [sv] at hx
    | func f => simp [sv] at hx
    | global g => simp [sv] at hx
  have pure' : (match pureP P s o.op with | some v => some (SV.v v) | none => none) = some x → YieldsIf P l.toArray (Know M0 L0) o x.val a ∧ okD cx.n o.dst = true ∧ (∀ i b off, x = .l i b off → ∃ so, lk s.L i = some so ∧ so.b = b) := by
    intro hp
    cases hv : pureP P s o.op with
    | none => rw [hv] at hp; cases hp
    | some v =>
      rw [hv] at hp
      simp only [Option.some.injEq] at hp
      subst hp
      exact ⟨.inl ⟨hw, fun w' _ => pureP_run ha hv w'⟩, hd, fun _ _ _ e => by cases e⟩
  obtain ⟨dst, op, ty, pos, af, gd⟩ := o
  cases op <;> simp only at h <;> first | exact pure' h | skip
  case move y => exact ⟨.inl ⟨hw, fun w' _ => by simp only [execOp, Sem.run_pure, ha.eval h]⟩, hd, tagged y x h⟩
  case assign y => exact ⟨.inl ⟨hw, fun w' _ => by simp only [execOp, Sem.run_pure, ha.eval h]⟩, hd, tagged y x h⟩
  case pick c y z =>
    cases hc : vl s c with
    | none => rw [hc] at h; cases h
    | some u =>
      cases u <;> first | (rw [hc] at h; cases h; done) | skip
      rename_i cc
      cases hy : sv s y with
      | none => rw [hc, hy] at h; cases h
      | some p =>
        cases hz : sv s z with
        | none => rw [hc, hy, hz] at h; cases h
        | some q =>
          rw [hc, hy, hz] at h
          simp only [Option.some.injEq] at h
          subst h
          refine ⟨.inl ⟨hw, fun w' _ => ?_⟩, hd, fun i b off e => ?_⟩
          · simp only [execOp, Sem.run_bind, ha.evalv hc, asBool, Sem.run_pure, Result.andThen_ok, ha.eval hy, ha.eval hz, pickS_val]
          · unfold pickS at e
            split at e
            · cases e
            · cases cc
              · exact tagged z q hz i b off e
              · exact tagged y p hy i b off e
  case fieldAddr t y f =>
    cases hf : fieldP P t f with
    | none => rw [hf] at h; cases h
    | some fo =>
      cases hy : sv s y with
      | none => rw [hf, hy] at h; cases h
      | some p =>
        rw [hf, hy] at h
        cases p with
        | l i bb off =>
          simp only [Option.some.injEq] at h
          subst h
          refine ⟨.inl ⟨hw, fun w' _ => ?_⟩, hd, fun i' b' off' e => by injection e with e1 e2 e3; subst e1; subst e2; exact tagged y _ hy _ _ _ rfl⟩
          simp only [execOp, Sem.run_bind, ha.eval hy, SV.val, fieldP_run hf, Result.andThen_ok, Sem.run_pure, add_off]
        | v u =>
          cases u <;> first | (cases h; done) | skip
          rename_i ad
          cases ad with
          | none => cases h
          | some ad =>
            simp only [Option.some.injEq] at h
            subst h
            refine ⟨.inl ⟨hw, fun w' _ => ?_⟩, hd, fun _ _ _ e => by cases e⟩
            simp only [execOp, Sem.run_bind, ha.eval hy, SV.val, fieldP_run hf, Result.andThen_ok, Sem.run_pure]
  case load t y =>
    cases hy : sv s y with
    | none => rw [hy] at h; cases h
    | some p =>
      rw [hy] at h
      cases p with
      | v u => cases h
      | l i bb off =>
        simp only at h
        cases hl : lk L0 i with
        | none => rw [hl] at h; cases h
        | some so =>
          rw [hl] at h
          cases so with
          | obj _ _ => cases h
          | cells b' cs e =>
            simp only at h
            cases hv : varP P t cs off with
            | none => rw [hv] at h; cases h
            | some v =>
              rw [hv] at h
              simp only [Option.some.injEq] at h
              subst h
              obtain ⟨so, h1, h2⟩ := tagged y _ hy i bb off rfl
              rw [hids i _ hl] at h1
              injection h1 with h1
              subst h1
              have hb' : b' = bb := h2
              subst hb'
              refine ⟨.inl ⟨hw, fun w' hk => ?_⟩, hd, fun _ _ _ e => by cases e⟩
              have hheap : w'.heap[b']? = some (.cells cs.toArray e (0, 0)) := hk.2 _ (lk_mem hl)
              simp only [execOp, Sem.run_bind, ha.eval hy, SV.val, Instr.loadAt, Instr.sureAddr, Sem.run_pure, Result.andThen_ok, varP_run hv hheap]

theorem noSel_spec (h : noSel l = true) : ∀ (j : Nat) (o : Oper) cs b, l.toArray[j]? = some o → o.op ≠ .select cs b := by
  intro j o cs b hj e
  have hj' : l[j]? = some o := by simpa using hj
  have := List.all_eq_true.1 h o (List.mem_of_getElem? hj')
  rw [e] at this
  cases this

theorem d_take1 (hs : noSel l = true) {i : Nat} {o : Oper} (ho : l[i]? = some o) (hr : readyE l listed i = true) (hf : freeE l ex listed i = true) {a : Act} {w : World} {v : Value} (hy : YieldsIf P l.toArray (Know M0 L0) o v a) (hk : Know M0 L0 w)
    (K : XE P l (NoPanic Q) M0 L0 ex fuel (setB listed i) (a.put o.dst v) w) : XE P l (NoPanic Q) M0 L0 ex (fuel + 1) listed a w := by
  unfold XE at K ⊢
  rw [setB_eq] at K
  exact takeE (oi := o) (by simpa using ho) (noSel_spec hs) (fun c a w h => h) fuel listed.toArray a w (freeE_spec ho hf) (readyE_mem hr) hy hk K

/-- Quiet operations: those of is, in this order. -/
theorem d_exec (is live keep rows : List Nat) (listed' : List Bool) (s' : SS) (hs : noSel l = true) (hle : ∀ a u, M0 a = some u → M a = some u) (hL : ∀ p ∈ L0, p ∈ s.L) (hids : ∀ i so, lk L0 i = some so → lk s.L i = some so)
    (h : (quietN P cx.n l L0 ex is listed s).bind (fun p => (fin live keep rows p.1).map (fun q => (q, p.2))) = some (s', listed'))
    (K : J cx M s' (XE P l (NoPanic Q) M0 L0 ex fuel listed')) : J cx M s (XE P l (NoPanic Q) M0 L0 ex (is.length + fuel) listed) := by
  have key : ∀ (is : List Nat) (listed : List Bool) (s : SS), (∀ p ∈ L0, p ∈ s.L) → (∀ i so, lk L0 i = some so → lk s.L i = some so) → (quietN P cx.n l L0 ex is listed s).bind (fun p => (fin live keep rows p.1).map (fun q => (q, p.2))) = some (s', listed') → J cx M s (XE P l (NoPanic Q) M0 L0 ex (is.length + fuel) listed) := by
    intro is
    induction is with
    | nil =>
      intro listed s hL hids h
      simp only [quietN, Option.bind_some, Option.map_eq_some_iff, Prod.mk.injEq] at h
      obtain ⟨q, h1, rfl, rfl⟩ := h
      rw [List.length_nil, Nat.zero_add]
      exact fun a w ha => K a w (ha.fin h1)
    | cons i r ih =>
      intro listed s hL hids h
      simp only [quietN] at h
      cases ho : l[i]? with
      | none => rw [ho] at h; cases h
      | some o =>
        rw [ho] at h
        simp only at h
        cases hq : quietS P cx.n l L0 s o with
        | none => rw [hq] at h; cases h
        | some x =>
          rw [hq] at h
          simp only at h
          cases hc : readyE l listed i && freeE l ex listed i with
          | false => rw [hc] at h; cases h
          | true =>
            rw [hc] at h
            simp only [cond_true] at h
            simp only [Bool.and_eq_true] at hc
            intro a w ha
            obtain ⟨hy, hd, ht⟩ := quietS_yields (M0 := M0) ha hL hids hq
            rw [List.length_cons, show r.length + 1 + fuel = (r.length + fuel) + 1 by omega]
            refine d_take1 hs ho hc.1 hc.2 hy (ha.know hle hL) ?_
            exact ih (setB listed i) ⟨putS o.dst x s.S, s.L, s.R, s.nx⟩ hL hids h _ _ (ha.put o.dst x hd ht (fun i so hi => ⟨so, hi, rfl⟩) ha.ids ha.st)
  exact key is listed s hL hids h

/-- A quiet operation that reads what stays. -/
theorem d_yld {i : Nat} {dst : Option Tmp} {v : Value} (hs : noSel l = true) (hle : ∀ a u, M0 a = some u → M a = some u) (hL : ∀ p ∈ L0, p ∈ s.L) (h : Yld P cx M M0 s l i dst v)
    (hr : readyE l listed i = true) (hf : freeE l ex listed i = true)
    (K : J cx M ⟨putS dst (.v v) s.S, s.L, s.R, s.nx⟩ (XE P l (NoPanic Q) M0 L0 ex fuel (setB listed i))) : J cx M s (XE P l (NoPanic Q) M0 L0 ex (fuel + 1) listed) := by
  intro a w ha
  obtain ⟨o, ho, hd, hw, hrun⟩ := h.yields a w ha
  refine d_take1 hs ho hr hf (.inl ⟨hw, fun w' hk => hrun w' hk.1⟩) (ha.know hle hL) ?_
  rw [hd]
  exact K _ _ (ha.put dst (.v v) h.ok (fun _ _ _ e => by cases e) (fun i so hi => ⟨so, hi, rfl⟩) ha.ids ha.st)

/-- The only operation that may come up is k. -/
def onlyE (l : List Oper) (listed : List Bool) (k : Nat) : Bool := (List.range l.length).all fun j => Nat.beq j k == readyE l listed j
theorem onlyE_mem (h : onlyE l listed k = true) (hk : k < l.length) : ∀ i, i ∈ Region.ready .any l.toArray listed.toArray → i = k := by
  intro i hi
  obtain ⟨h1, o, ho, hall⟩ := mem_ready.1 hi
  have ho' : l[i]? = some o := by simpa using ho
  have hlt : i < l.length := (List.getElem?_eq_some_iff.1 ho').1
  have := List.all_eq_true.1 h i (List.mem_range.2 hlt)
  have hrd : readyE l listed i = true := by
    unfold readyE
    rw [ho']
    simp only [Bool.and_eq_true, Bool.not_eq_true']
    refine ⟨by simpa using h1, List.all_eq_true.2 fun e he => ?_⟩
    cases hb : Region.binds .any e with
    | false => rfl
    | true =>
      have := hall e (by simpa using he) hb
      simpa using this
  rw [hrd] at this
  simp only [beq_true] at this
  exact Nat.eq_of_beq_eq_true this
theorem d_op (hk : onlyE l listed k = true) (h : OpJ P cx M s l (NoPanic Q) k (fun a w => (k ∉ ex → Know M0 L0 w) ∧ XE P l (NoPanic Q) M0 L0 ex fuel (setB listed k) a w)) : J cx M s (XE P l (NoPanic Q) M0 L0 ex (fuel + 1) listed) := by
  intro a w ha
  obtain ⟨o, ho, hw, hwp⟩ := h a w ha
  have hlt : k < l.length := (List.getElem?_eq_some_iff.1 ho).1
  have hrk : readyE l listed k = true := by
    have := List.all_eq_true.1 hk k (List.mem_range.2 hlt)
    simpa using this
  refine ⟨fun h0 => ?_, fun i hi => ?_⟩
  · have := readyE_mem hrk
    rw [h0] at this
    cases this
  · have := onlyE_mem hk hlt i hi
    subst this
    unfold wpOp
    simp only [List.getElem?_toArray, ho, hw, if_true]
    left
    refine Oper.wp_mono (fun a' w' h' => ⟨h'.1, ?_⟩) hwp
    have := h'.2
    unfold XE at this
    rw [setB_eq] at this
    exact this
/-- Behind such an operation: the region's knowledge anew. -/
theorem d_know {s' : SS} {M' : Mem} (hle : ∀ a u, M0 a = some u → M' a = some u) (hL : ∀ p ∈ L0, p ∈ s'.L) (K : J cx M' s' X) : J cx M' s' (fun a w => (k ∉ ex → Know M0 L0 w) ∧ X a w) :=
  fun a w ha => ⟨fun _ => ha.know hle hL, K a w ha⟩
theorem d_ex {s' : SS} {M' : Mem} (hk : isIn ex k = true) (K : J cx M' s' X) : J cx M' s' (fun a w => (k ∉ ex → Know M0 L0 w) ∧ X a w) := by
  refine fun a w ha => ⟨fun hn => absurd ?_ hn, K a w ha⟩
  have : ∀ (e : List Nat), isIn e k = true → k ∈ e := by
    intro e
    induction e with
    | nil => intro h; cases h
    | cons i r ih =>
      intro h
      simp only [isIn] at h
      cases hb : Nat.beq i k with
      | true => rw [Nat.eq_of_beq_eq_true hb]; exact List.mem_cons_self
      | false => rw [hb] at h; exact List.mem_cons_of_mem _ (ih h)
  exact this ex hk
/-- One symbolic step (an allocation, a store). -/
theorem o_step (s' : Nat → SS) {used : Bool} {o : Oper} (ho : l[k]? = some o) (hg : guardS l s o.guard = some true) (h : ∀ b, opM P cx.n b s o.dst o.op = some (s' b, used)) (K : ∀ b, J cx M (s' b) X) : OpJ P cx M s l Q k X := by
  intro a w ha
  refine ⟨o, ho, guardS_wanted ha hg, opM_sound ha o (h w.heap.size) (fun _ => rfl) X Q (K w.heap.size)⟩
theorem d_end (hr : (List.range l.length).all (fun j => listed.getD j false) = true) (K : J cx M s (Q .normal)) : J cx M s (XE P l (NoPanic Q) M0 L0 ex fuel listed) := by
  intro a w ha
  have hempty : Region.ready .any l.toArray listed.toArray = [] := by
    apply List.eq_nil_iff_forall_not_mem.2
    intro i hi
    obtain ⟨h1, o, ho, _⟩ := mem_ready.1 hi
    have ho' : l[i]? = some o := by simpa using ho
    have hlt : i < l.length := (List.getElem?_eq_some_iff.1 ho').1
    have := List.all_eq_true.1 hr i (List.mem_range.2 hlt)
    have h1' : listed.getD i true = false := by simpa using h1
    rw [List.getD_eq_getElem?_getD] at this h1'
    cases hg : listed[i]? with
    | none => rw [hg] at h1'; cases h1'
    | some x => rw [hg] at this h1'; simp at this h1'; rw [this] at h1'; cases h1'
  unfold XE
  cases fuel with
  | zero => exact ⟨hempty, NoPanic.normal (K a w ha)⟩
  | succ f => exact ⟨fun _ => NoPanic.normal (K a w ha), by rw [hempty]; intro i hi; cases hi⟩
/-! the same, the blocks that are read being those of keep0 -/
theorem keep_mem {keep0 : List Nat} (hk : keepIn keep0 s.L = L0) : ∀ p ∈ L0, p ∈ s.L := fun p hp => (keepIn_sub keep0 s.L).subset (hk ▸ hp)
theorem keep_ids {keep0 : List Nat} (hk : keepIn keep0 s.L = L0) : ∀ i so, lk L0 i = some so → lk s.L i = some so := fun i so h => keepIn_lk keep0 s.L i so (by rw [hk]; exact h)
theorem dx_exec (keep0 is live keep rows : List Nat) (listed' : List Bool) (s' : SS) (hs : noSel l = true) (hle : ∀ a u, M0 a = some u → M a = some u) (hk : keepIn keep0 s.L = L0)
    (h : (quietN P cx.n l L0 ex is listed s).bind (fun p => (fin live keep rows p.1).map (fun q => (q, p.2))) = some (s', listed'))
    (K : J cx M s' (XE P l (NoPanic Q) M0 L0 ex fuel listed')) (hf : is.length + fuel = k) : J cx M s (XE P l (NoPanic Q) M0 L0 ex k listed) := by
  subst hf
  exact d_exec is live keep rows listed' s' hs hle (keep_mem hk) (keep_ids hk) h K
theorem dx_yld (keep0 : List Nat) {i : Nat} {dst : Option Tmp} {v : Value} (listed' : List Bool) (hs : noSel l = true) (hle : ∀ a u, M0 a = some u → M a = some u) (hk : keepIn keep0 s.L = L0) (h : Yld P cx M M0 s l i dst v)
    (hr : (readyE l listed i && freeE l ex listed i) = true) (hl : setB listed i = listed')
    (K : J cx M ⟨putS dst (.v v) s.S, s.L, s.R, s.nx⟩ (XE P l (NoPanic Q) M0 L0 ex fuel listed')) (hf : fuel + 1 = k) : J cx M s (XE P l (NoPanic Q) M0 L0 ex k listed) := by
  subst hf; subst hl
  simp only [Bool.and_eq_true] at hr
  exact d_yld hs hle (keep_mem hk) h hr.1 hr.2 K
/-- The only one that may come up: k; behind it the region's knowledge by keep0. -/
theorem dx_op {i : Nat} (listed' : List Bool) (hk : onlyE l listed i = true) (hl : setB listed i = listed') (h : OpJ P cx M s l (NoPanic Q) i (fun a w => (i ∉ ex → Know M0 L0 w) ∧ XE P l (NoPanic Q) M0 L0 ex fuel listed' a w)) (hf : fuel + 1 = k) : J cx M s (XE P l (NoPanic Q) M0 L0 ex k listed) := by
  subst hf; subst hl
  exact d_op hk h
theorem dx_know (keep0 : List Nat) {s' : SS} {M' : Mem} (hle : ∀ a u, M0 a = some u → M' a = some u) (hk : keepIn keep0 s'.L = L0) (K : J cx M' s' X) : J cx M' s' (fun a w => (k ∉ ex → Know M0 L0 w) ∧ X a w) :=
  d_know hle (keep_mem hk) K
end rules
end Go.Eng
