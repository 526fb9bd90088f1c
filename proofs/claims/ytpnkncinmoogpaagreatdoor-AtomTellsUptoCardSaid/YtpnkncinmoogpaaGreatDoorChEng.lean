/- THE ENGINE: a symbolic executor of the machine's straight code, proved sound once, over any program. Rules of this work's own. -/
import Derived.WalkKit
import Derived.KernelRfl
import Derived.Orders
import Derived.LoopN
import Derived.Below
import Derived.Maps.AppendAt
import Derived.Laws.Rows
import Derived.Laws.Tables
import Derived.Shelf.Abstract
set_option linter.unusedVariables false
namespace Go.Eng
open Go Go.RowKit

/-! ### memory that stays -/
abbrev Mem := Addr → Option Value

/-- From (w, M) to (w', M'): blocks of w but those of bs are as they were; M' knows all that M knew, and of w's blocks no more. -/
structure Ext (bs : List Nat) (w : World) (M : Mem) (w' : World) (M' : Mem) (D : Prop := False) : Prop where
  os : w'.os = w.os
  tape : w'.tape = w.tape
  output : w'.output = w.output
  size : w.heap.size ≤ w'.heap.size
  keep : ∀ k, k < w.heap.size → k ∉ bs → w'.heap[k]? = w.heap[k]?
  le : ∀ a v, M a = some v → M' a = some v
  sat : ∀ a v, M' a = some v → w'.cell? a = some v
  new : ∀ a, a.block < w.heap.size → a.block ∉ bs → M' a = M a
  drawn : D → w.drawn ≤ w'.drawn

def Sat (M : Mem) (w : World) : Prop := ∀ a v, M a = some v → w.cell? a = some v

theorem Ext.refl {w : World} {M : Mem} {D : Prop} (bs : List Nat) (h : Sat M w) : Ext bs w M w M D :=
  ⟨rfl, rfl, rfl, Nat.le_refl _, fun _ _ _ => rfl, fun _ _ h => h, h, fun _ _ _ => rfl, fun _ => Nat.le_refl _⟩

theorem Ext.trans {bs : List Nat} {w w1 w2 : World} {M M1 M2 : Mem} {D : Prop} (h : Ext bs w M w1 M1 D) (k : Ext bs w1 M1 w2 M2 D) : Ext bs w M w2 M2 D :=
  ⟨k.os.trans h.os, k.tape.trans h.tape, k.output.trans h.output, Nat.le_trans h.size k.size,
    fun i hi hb => (k.keep i (Nat.lt_of_lt_of_le hi h.size) hb).trans (h.keep i hi hb),
    fun a v ha => k.le a v (h.le a v ha), k.sat, fun a ha hb => (k.new a (Nat.lt_of_lt_of_le ha h.size) hb).trans (h.new a ha hb), fun d => Nat.le_trans (h.drawn d) (k.drawn d)⟩

/-- The last step may also write blocks that the first world didn't have. -/
theorem Ext.trans' {bs bs' : List Nat} {w w1 w2 : World} {M M1 M2 : Mem} {D : Prop} (h : Ext bs w M w1 M1 D) (k : Ext bs' w1 M1 w2 M2 D) (hb : ∀ b, b ∈ bs' → b ∈ bs ∨ w.heap.size ≤ b) : Ext bs w M w2 M2 D :=
  ⟨k.os.trans h.os, k.tape.trans h.tape, k.output.trans h.output, Nat.le_trans h.size k.size,
    fun i hi hn => (k.keep i (Nat.lt_of_lt_of_le hi h.size) (fun hm => (hb i hm).elim hn (fun hle => absurd hi (Nat.not_lt.2 hle)))).trans (h.keep i hi hn),
    fun a v ha => k.le a v (h.le a v ha), k.sat, fun a ha hn => (k.new a (Nat.lt_of_lt_of_le ha h.size) (fun hm => (hb _ hm).elim hn (fun hle => absurd ha (Nat.not_lt.2 hle)))).trans (h.new a ha hn), fun d => Nat.le_trans (h.drawn d) (k.drawn d)⟩

theorem Ext.below {w w' : World} {M M' : Mem} {D : Prop} (h : Ext [] w M w' M' D) : Below w.heap.size w w' :=
  ⟨h.os, h.tape, h.output, h.size, fun k hk => h.keep k hk (by simp)⟩

theorem Ext.weak {bs : List Nat} {w w' : World} {M M' : Mem} {D : Prop} (h : Ext bs w M w' M' D) : Ext bs w M w' M' := ⟨h.os, h.tape, h.output, h.size, h.keep, h.le, h.sat, h.new, fun d => d.elim⟩
theorem Ext.mono {bs bs' : List Nat} {w w' : World} {M M' : Mem} {D : Prop} (h : Ext bs w M w' M' D) (hb : ∀ b, b ∈ bs → b ∈ bs') : Ext bs' w M w' M' D :=
  ⟨h.os, h.tape, h.output, h.size, fun k hk hn => h.keep k hk (fun hm => hn (hb k hm)), h.le, h.sat, fun a ha hn => h.new a ha (fun hm => hn (hb _ hm)), h.drawn⟩

theorem Sat.block {M : Mem} {w : World} (h : Sat M w) {a : Addr} {v : Value} (ha : M a = some v) : a.block < w.heap.size := World.block_lt_of_cell? w a (h a v ha)
theorem Sat.none_new {M : Mem} {w : World} (h : Sat M w) {a : Addr} (ha : w.heap.size ≤ a.block) : M a = none := by
  cases hm : M a with
  | none => rfl
  | some v => exact absurd (h.block hm) (Nat.not_lt.2 ha)

/-! ### the symbolic state -/
inductive SV where
  | v (x : Value)
  | l (i b off : Nat)

def SV.val : SV → Value
  | .v x => x
  | .l _ b off => .pointer (some ⟨b, off, none⟩)

def lk {α : Type} : List (Nat × α) → Nat → Option α
  | [], _ => none
  | (i, x) :: r, d => bif Nat.beq i d then some x else lk r d

inductive SO where
  | cells (b : Nat) (cs : List Value) (t : Nat)
  | obj (b : Nat) (o : Obj)
def SO.b : SO → Nat
  | .cells b _ _ => b
  | .obj b _ => b
def SO.o : SO → Obj
  | .cells _ cs t => .cells cs.toArray t (0, 0)
  | .obj _ o => o

structure RowI where
  v : Value
  e : Nat
  sz : Nat
  n : Nat
  cs : List Value

structure SS where
  S : List (Nat × SV)
  L : List (Nat × SO)
  R : List (Nat × RowI)
  nx : Nat

structure Cx where
  n : Nat
  bs : List Nat
  w0 : World
  M0 : Mem
  D : Prop

def blks (L : List (Nat × SO)) (R : List (Nat × RowI)) : List Nat := L.map (·.2.b) ++ R.filterMap (·.2.v.ownBlock)

structure St (cx : Cx) (M : Mem) (L : List (Nat × SO)) (R : List (Nat × RowI)) (w : World) : Prop where
  ext : Ext cx.bs cx.w0 cx.M0 w M cx.D
  obj : ∀ p ∈ L, w.heap[p.2.b]? = some p.2.o
  row : ∀ p ∈ R, w.ownsRow 0 p.2.e p.2.sz p.2.v p.2.n p.2.cs
  nodup : (blks L R).Nodup
  free : ∀ b ∈ blks L R, (cx.w0.heap.size ≤ b ∨ b ∈ cx.bs) ∧ ∀ a : Addr, a.block = b → M a = none

structure Holds (cx : Cx) (M : Mem) (s : SS) (a : Act) (w : World) : Prop where
  size : a.tmps.size = cx.n
  defers : a.defers = []
  slots : ∀ t x, lk s.S t = some x → t < cx.n ∧ a.tmps.getD t undef = x.val
  locs : ∀ t i b off, lk s.S t = some (.l i b off) → ∃ so, lk s.L i = some so ∧ so.b = b
  ids : ∀ i so, lk s.L i = some so → i < s.nx
  st : St cx M s.L s.R w

theorem lk_mem {α : Type} {l : List (Nat × α)} {i : Nat} {x : α} (h : lk l i = some x) : (i, x) ∈ l := by
  induction l with
  | nil => cases h
  | cons p r ih =>
    obtain ⟨j, y⟩ := p
    simp only [lk] at h
    cases hb : Nat.beq j i with
    | true =>
      rw [hb] at h
      simp only [cond_true, Option.some.injEq] at h
      have := Nat.eq_of_beq_eq_true hb
      subst this; subst h
      exact List.mem_cons_self
    | false =>
      rw [hb] at h
      exact List.mem_cons_of_mem _ (ih h)

theorem lk_cons {α : Type} (l : List (Nat × α)) (i d : Nat) (x : α) : lk ((i, x) :: l) d = if i = d then some x else lk l d := by
  simp only [lk]
  by_cases h : i = d
  · subst h; simp
  · have : Nat.beq i d = false := by
      cases hb : Nat.beq i d with
      | false => rfl
      | true => exact absurd (Nat.eq_of_beq_eq_true hb) h
    simp [this, h]

theorem St.lt {cx : Cx} {M : Mem} {L : List (Nat × SO)} {R : List (Nat × RowI)} {w : World} (h : St cx M L R w) : ∀ b ∈ blks L R, b < w.heap.size := by
  intro b hb
  simp only [blks, List.mem_append, List.mem_map, List.mem_filterMap] at hb
  rcases hb with ⟨p, hp, rfl⟩ | ⟨p, hp, hv⟩
  · exact (Array.getElem?_eq_some_iff.1 (h.obj p hp)).1
  · exact ((h.row p hp).lt b hv).2

theorem St.ext0 {n : Nat} {bs : List Nat} {w0 : World} {M0 M : Mem} {D : Prop} {L : List (Nat × SO)} {R : List (Nat × RowI)} {w : World} (h : St ⟨n, bs, w0, M0, D⟩ M L R w) : Ext bs w0 M0 w M D := h.ext
theorem St.sat {cx : Cx} {M : Mem} {L : List (Nat × SO)} {R : List (Nat × RowI)} {w : World} (h : St cx M L R w) : Sat M w := h.ext.sat

/-! ### a step that leaves the symbolic memory alone -/
theorem getD_set_ne (xs : Array Value) (d t : Nat) (v u : Value) (h : d ≠ t) : (xs.setIfInBounds d v).getD t u = xs.getD t u := by
  simp [Array.getD_eq_getD_getElem?, Array.getElem?_setIfInBounds_ne h]
theorem getD_set_eq (xs : Array Value) (d : Nat) (v u : Value) (h : d < xs.size) : (xs.setIfInBounds d v).getD d u = v := by
  simp [Array.getD_eq_getD_getElem?, Array.getElem?_setIfInBounds_self_of_lt h]

/-- What a temporary is set to. -/
def putS (dst : Option Tmp) (x : SV) (S : List (Nat × SV)) : List (Nat × SV) :=
  match dst with
  | some d => (d, x) :: S
  | none => S
def okD (n : Nat) : Option Tmp → Bool
  | some d => Nat.blt d n
  | none => true

theorem Holds.put {cx : Cx} {M : Mem} {s : SS} {a : Act} {w w' : World} (h : Holds cx M s a w) (dst : Option Tmp) (x : SV) (hd : okD cx.n dst = true) {L : List (Nat × SO)} {R : List (Nat × RowI)} {nx : Nat} {M' : Mem}
    (hx : ∀ i b off, x = .l i b off → ∃ so, lk L i = some so ∧ so.b = b)
    (hL : ∀ i so, lk s.L i = some so → ∃ so', lk L i = some so' ∧ so'.b = so.b)
    (hi : ∀ i so, lk L i = some so → i < nx)
    (hst : St cx M' L R w') : Holds cx M' ⟨putS dst x s.S, L, R, nx⟩ (a.put dst x.val) w' := by
  cases dst with
  | none =>
    refine ⟨h.size, h.defers, h.slots, fun t i b off ht => ?_, hi, hst⟩
    obtain ⟨so, h1, h2⟩ := h.locs t i b off ht
    obtain ⟨so', h3, h4⟩ := hL i so h1
    exact ⟨so', h3, h4.trans h2⟩
  | some d =>
    have hd' : d < cx.n := by simpa [okD, Nat.blt_eq] using hd
    refine ⟨by simp [Act.put, h.size], h.defers, fun t y ht => ?_, fun t i b off ht => ?_, hi, hst⟩
    · simp only [putS, lk_cons] at ht
      by_cases e : d = t
      · rw [if_pos e] at ht
        injection ht with ht
        subst e; subst ht
        exact ⟨hd', getD_set_eq _ _ _ _ (by rw [h.size]; exact hd')⟩
      · rw [if_neg e] at ht
        have := h.slots t y ht
        exact ⟨this.1, by show (a.tmps.setIfInBounds d x.val).getD t undef = _; rw [getD_set_ne _ _ _ _ _ e]; exact this.2⟩
    · simp only [putS, lk_cons] at ht
      by_cases e : d = t
      · rw [if_pos e] at ht
        injection ht with ht
        exact hx i b off ht
      · rw [if_neg e] at ht
        obtain ⟨so, h1, h2⟩ := h.locs t i b off ht
        obtain ⟨so', h3, h4⟩ := hL i so h1
        exact ⟨so', h3, h4.trans h2⟩

/-! ### operands -/
def sv (s : SS) : Operand → Option SV
  | .tmp t => lk s.S t
  | .const v => some (.v v)
  | .func f => some (.v (.func (.func f) #[] #[]))
  | .global g => some (.v (.pointer (some ⟨g, 0, none⟩)))
def vl (s : SS) (x : Operand) : Option Value := (sv s x).map SV.val

theorem Holds.eval {cx : Cx} {M : Mem} {s : SS} {a : Act} {w : World} (h : Holds cx M s a w) {x : Operand} {y : SV} (hx : sv s x = some y) : a.eval x = y.val := by
  cases x with
  | tmp t => exact (h.slots t y hx).2
  | const v => simp only [sv, Option.some.injEq] at hx; subst hx; rfl
  | func f => simp only [sv, Option.some.injEq] at hx; subst hx; rfl
  | global g => simp only [sv, Option.some.injEq] at hx; subst hx; rfl
theorem Holds.evalv {cx : Cx} {M : Mem} {s : SS} {a : Act} {w : World} (h : Holds cx M s a w) {x : Operand} {y : Value} (hx : vl s x = some y) : a.eval x = y := by
  unfold vl at hx
  cases he : sv s x with
  | none => rw [he] at hx; cases hx
  | some z => rw [he] at hx; simp only [Option.map_some, Option.some.injEq] at hx; rw [h.eval he, hx]

def vls (s : SS) : List Operand → Option (List Value)
  | [] => some []
  | x :: r => match vl s x, vls s r with
    | some v, some vs => some (v :: vs)
    | _, _ => none
theorem Holds.evals {cx : Cx} {M : Mem} {s : SS} {a : Act} {w : World} (h : Holds cx M s a w) : ∀ {l : List Operand} {vs : List Value}, vls s l = some vs → l.map a.eval = vs
  | [], vs, hv => by simp only [vls, Option.some.injEq] at hv; subst hv; rfl
  | x :: r, vs, hv => by
    simp only [vls] at hv
    cases h1 : vl s x with
    | none => rw [h1] at hv; cases hv
    | some v =>
      cases h2 : vls s r with
      | none => rw [h1, h2] at hv; cases hv
      | some us =>
        rw [h1, h2] at hv
        simp only [Option.some.injEq] at hv
        subst hv
        rw [List.map_cons, h.evalv h1, h.evals h2]
def vps (s : SS) : List (Nat × Operand) → Option (List (Nat × Value))
  | [] => some []
  | (i, x) :: r => match vl s x, vps s r with
    | some v, some vs => some ((i, v) :: vs)
    | _, _ => none
theorem Holds.evalps {cx : Cx} {M : Mem} {s : SS} {a : Act} {w : World} (h : Holds cx M s a w) : ∀ {l : List (Nat × Operand)} {vs : List (Nat × Value)}, vps s l = some vs → l.map (fun p => (p.1, a.eval p.2)) = vs
  | [], vs, hv => by simp only [vps, Option.some.injEq] at hv; subst hv; rfl
  | (i, x) :: r, vs, hv => by
    simp only [vps] at hv
    cases h1 : vl s x with
    | none => rw [h1] at hv; cases hv
    | some v =>
      cases h2 : vps s r with
      | none => rw [h1, h2] at hv; cases hv
      | some us =>
        rw [h1, h2] at hv
        simp only [Option.some.injEq] at hv
        subst hv
        rw [List.map_cons, h.evalv h1, h.evalps h2]

/-! ### what hangs on no memory -/
def bAnd (k : IntKind) (a b : Int) : Int := k.wrap (((BitVec.ofInt k.bits a &&& BitVec.ofInt k.bits b).toNat : Nat) : Int)
def bOr (k : IntKind) (a b : Int) : Int := k.wrap (((BitVec.ofInt k.bits a ||| BitVec.ofInt k.bits b).toNat : Nat) : Int)
def bXor (k : IntKind) (a b : Int) : Int := k.wrap (((BitVec.ofInt k.bits a ^^^ BitVec.ofInt k.bits b).toNat : Nat) : Int)
def bAndNot (k : IntKind) (a b : Int) : Int := k.wrap (((BitVec.ofInt k.bits a &&& ~~~(BitVec.ofInt k.bits b)).toNat : Nat) : Int)
def evalInt (op : BinOp) (k : IntKind) (a b : Int) : Option Value :=
  match op with
  | .add => some (.int k (k.wrap (a + b)))
  | .sub => some (.int k (k.wrap (a - b)))
  | .mul => some (.int k (k.wrap (a * b)))
  | .eql => some (.bool (a == b))
  | .neq => some (.bool (a != b))
  | .lss => some (.bool (decide (a < b)))
  | .leq => some (.bool (decide (a ≤ b)))
  | .gtr => some (.bool (decide (a > b)))
  | .geq => some (.bool (decide (a ≥ b)))
  | .quo => bif decide (b = 0) then none else some (.int k (k.wrap (a.tdiv b)))
  | .rem => bif decide (b = 0) then none else some (.int k (a.tmod b))
  | .and => some (.int k (bAnd k a b))
  | .or => some (.int k (bOr k a b))
  | .xor => some (.int k (bXor k a b))
  | .andNot => some (.int k (bAndNot k a b))
  | _ => none
def kindEq : IntKind → IntKind → Bool
  | .i8, .i8 | .i16, .i16 | .i32, .i32 | .i64, .i64 | .u8, .u8 | .u16, .u16 | .u32, .u32 | .u64, .u64 => true
  | _, _ => false
theorem kindEq_eq {k k' : IntKind} (h : kindEq k k' = true) : k = k' := by cases k <;> cases k' <;> first | rfl | (cases h)
def evalStr (op : BinOp) (a b : ByteArray) : Option Value :=
  match op with
  | .eql => some (.bool (a.toList == b.toList))
  | .neq => some (.bool (!(a.toList == b.toList)))
  | .lss => some (.bool (Op.bytesLess a.toList b.toList))
  | _ => none
def isBool (P : Program) (t : TypeId) : Bool := match P.underlying t with | some .bool => true | _ => false
def evalBin (P : Program) (op : BinOp) (t : TypeId) (x y : Value) : Option Value :=
  match x, y with
  | .int k a, .int k' b => bif kindEq k k' then evalInt op k a b else none
  | .string a, .string b => evalStr op a b
  | .bool a, .bool b => match op with
    | .eql => bif isBool P t then some (.bool (a == b)) else none
    | .neq => bif isBool P t then some (.bool (!(a == b))) else none
    | _ => none
  | _, _ => none
theorem run_eqGuard_int (P : Program) (w : World) (op : BinOp) (t : TypeId) (x y : Operand) (k k' : IntKind) (a b : Int) : (eqGuard op t x y (.int k a) (.int k' b)).run P w = .ok () w := by
  unfold eqGuard; split <;> rfl
theorem run_eqGuard_str (P : Program) (w : World) (op : BinOp) (t : TypeId) (x y : Operand) (a b : ByteArray) : (eqGuard op t x y (.string a) (.string b)).run P w = .ok () w := by
  unfold eqGuard; split <;> rfl
theorem run_eqGuard_bool (P : Program) (w : World) (op : BinOp) (t : TypeId) (x y : Operand) (a b : Bool) : (eqGuard op t x y (.bool a) (.bool b)).run P w = .ok () w := by
  unfold eqGuard; split <;> rfl
theorem run_equal_bool {P : Program} {t : TypeId} (hu : P.underlying t = some .bool) (a b : Bool) (w : World) : (Op.equal t (.bool a) (.bool b)).run P w = .ok (a == b) w := by
  show (Op.equalIn (9999 + 1) t (.bool a) (.bool b)).run P w = _
  rw [Op.equalIn]
  simp only [Sem.run_bind, run_underlying hu, Result.andThen_ok]
  rfl
theorem evalBin_run {P : Program} {op : BinOp} {t : TypeId} {x y : Operand} {u v r : Value} (h : evalBin P op t u v = some r) (w : World) :
    (do eqGuard op t x y u v; binOp op t u v : Sem Value).run P w = .ok r w := by
  cases u with
  | int k a =>
    cases v with
    | int k' b =>
      simp only [evalBin] at h
      cases hk : kindEq k k' with
      | false => rw [hk] at h; cases h
      | true =>
        rw [hk] at h
        have := kindEq_eq hk
        subst this
        simp only [cond_true] at h
        rw [Sem.run_bind, run_eqGuard_int, Result.andThen_ok]
        cases op <;> simp only [evalInt, Option.some.injEq] at h <;> first | (cases h; done) | (subst h; simp [binOp, Op.intArith, Op.intCmp]; done) | (subst h; simp [binOp, Op.intBits, bAnd, bOr, bXor, bAndNot]; done) | skip
        all_goals
          by_cases hb : b = 0
          · simp [hb] at h
          · simp only [hb, decide_false, cond_false, Option.some.injEq] at h
            subst h; simp [binOp, Op.intDiv, hb]
    | _ => cases h
  | string a =>
    cases v with
    | string b =>
      simp only [evalBin] at h
      rw [Sem.run_bind, run_eqGuard_str, Result.andThen_ok]
      cases op <;> simp only [evalStr, Option.some.injEq] at h <;> first | (subst h; simp [binOp, Op.stringOp]; done) | (cases h; done)
    | _ => cases h
  | bool a =>
    cases v with
    | bool b =>
      rw [Sem.run_bind, run_eqGuard_bool, Result.andThen_ok]
      simp only [evalBin] at h
      cases op <;> simp only at h <;> first | (cases h; done) | skip
      all_goals
        cases hb : isBool P t with
        | false => rw [hb] at h; cases h
        | true =>
          rw [hb] at h
          simp only [cond_true, Option.some.injEq] at h
          subst h
          have hu : P.underlying t = some .bool := by
            unfold isBool at hb
            split at hb
            · assumption
            · cases hb
          simp only [binOp, Sem.run_bind, run_equal_bool hu, Result.andThen_ok, Sem.run_pure]
    | _ => cases h
  | _ => cases h

/-- 'part': a piece of a struct's cells. -/
def partP (P : Program) (t : TypeId) (cs : Array Value) (off : Nat) : Option Value :=
  match P.underlying t with
  | some (.struct _) | some (.array _ _) => match P.info? t with
    | some i => some (.agg (cs.extract off (off + i.size)))
    | none => none
  | some _ => cs[off]?
  | none => none
theorem isAgg_run {P : Program} {t : TypeId} {d : TypeDesc} (h : P.underlying t = some d) (w : World) : (isAgg t).run P w = .ok (match d with | .struct _ | .array _ _ => true | _ => false) w := by
  simp only [isAgg, Sem.run_bind, run_underlying h, Result.andThen_ok]
  cases d <;> rfl
theorem partP_run {P : Program} {t : TypeId} {cs : Array Value} {off : Nat} {v : Value} (h : partP P t cs off = some v) (w : World) : (part t cs off).run P w = .ok v w := by
  unfold partP at h
  cases hu : P.underlying t with
  | none => rw [hu] at h; cases h
  | some d =>
    rw [hu] at h
    unfold part
    rw [Sem.run_bind, isAgg_run hu, Result.andThen_ok]
    cases d
    case struct fs =>
      simp only at h
      cases hi : P.info? t with
      | none => rw [hi] at h; cases h
      | some i =>
        rw [hi] at h
        simp only [Option.some.injEq] at h
        subst h
        simp [sizeOf, typeInfo, hi]
    case array n e =>
      simp only at h
      cases hi : P.info? t with
      | none => rw [hi] at h; cases h
      | some i =>
        rw [hi] at h
        simp only [Option.some.injEq] at h
        subst h
        simp [sizeOf, typeInfo, hi]
    all_goals
      simp only at h
      simp [h]

def convP (P : Program) (s d : TypeId) (x : Value) : Option Value :=
  match P.underlying s, P.underlying d, x with
  | some _, some (.int k), .int _ n => some (.int k (k.wrap n))
  | some _, some .string, .string b => some (.string b)
  | _, _, _ => none
theorem convP_run {P : Program} {s d : TypeId} {x v : Value} (h : convP P s d x = some v) (w : World) : (convert s d x).run P w = .ok v w := by
  unfold convP at h
  cases hs : P.underlying s with
  | none => rw [hs] at h; cases h
  | some ds =>
    cases hd : P.underlying d with
    | none => rw [hs, hd] at h; cases h
    | some dd =>
      rw [hs, hd] at h
      unfold convert
      simp only [Sem.run_bind, run_underlying hs, run_underlying hd, Result.andThen_ok]
      cases dd <;> cases x <;> simp only [Option.some.injEq] at h <;> first | (cases h; done) | skip
      all_goals
        subst h
        cases ds <;> simp [Conv.intToInt]

/-- ^n, as the machine has it. -/
def notI (n : Int) : Int := IntKind.i64.wrap ((BitVec.ofInt IntKind.i64.bits (-1) ^^^ BitVec.ofInt IntKind.i64.bits n).toNat : Nat)
/-- What an operation comes to that reads and makes no memory. -/
def pureP (P : Program) (s : SS) : Op → Option Value
  | .binOp op t x y _ => match vl s x, vl s y with
    | some u, some v => evalBin P op t u v
    | _, _ => none
  | .unOp .not _ x => match vl s x with
    | some (.bool b) => some (.bool (!b))
    | _ => none
  | .unOp .neg _ x => match vl s x with
    | some (.int k n) => some (.int k (k.wrap (0 - n)))
    | _ => none
  | .unOp .xor _ x => match vl s x with
    | some (.int .i64 n) => some (.int .i64 (notI n))
    | _ => none
  | .convert src dst x => match vl s x with
    | some v => convP P src dst v
    | none => none
  | .extract t i => match vl s t with
    | some (.tuple vs) => vs[i]?
    | _ => none
  | .field t x f => match vl s x, P.underlying t with
    | some (.agg cs), some (.struct fields) => match fields[f]? with
      | some fd => partP P fd.type cs fd.offset
      | none => none
    | _, _ => none
  | .build t parts => match vps s parts.toList with
    | some ps => match P.built t ps with
      | some cells => some (.agg cells)
      | none => none
    | none => none
  | .makeFunc fn first caps => match vls s first.toList, vls s caps.toList with
    | some fs, some cs => some (.func fn fs.toArray cs.toArray)
    | _, _ => none
  | .makeInterface t x => match vl s x with
    | some v => bif P.concrete t then some (.iface t v) else none
    | none => none
  | .call c => match c.callee, c.args.toList, c.argTypes.toList with
    | .builtin .len, [x], [t] => match vl s x, P.underlying t with
      | some (.slice _ n _), some (.slice _) => some (.int .i64 n)
      | some (.string b), some .string => some (.int .i64 b.size)
      | _, _ => none
    | .builtin .min, [x, y], _ => match vl s x, vl s y with
      | some (.int k a), some (.int _ b) => some (.int k (if b < a then b else a))
      | _, _ => none
    | .builtin .max, [x, y], _ => match vl s x, vl s y with
      | some (.int k a), some (.int _ b) => some (.int k (if a < b then b else a))
      | _, _ => none
    | _, _, _ => none
  | _ => none

theorem pureP_run {P : Program} {cx : Cx} {M : Mem} {s : SS} {a : Act} {w : World} (h : Holds cx M s a w) {o : Oper} {v : Value} (hp : pureP P s o.op = some v) (w' : World) : (execOp a.eval o).run P w' = .ok (.value v) w' := by
  obtain ⟨dst, op, type, pos, after, guard⟩ := o
  cases op
  case binOp op t x y yt =>
    simp only [pureP] at hp
    cases hx : vl s x with
    | none => rw [hx] at hp; cases hp
    | some u =>
      cases hy : vl s y with
      | none => rw [hx, hy] at hp; cases hp
      | some z =>
        rw [hx, hy] at hp
        have := evalBin_run (x := x) (y := y) hp w'
        simp only [execOp, h.evalv hx, h.evalv hy]
        rw [Sem.run_bind, this]
        rfl
  case unOp op t x =>
    cases op <;> simp only [pureP] at hp <;> first | (cases hp; done) | skip
    all_goals
      cases hx : vl s x with
      | none => rw [hx] at hp; cases hp
      | some u =>
        rw [hx] at hp
        cases u <;> first | (cases hp; done) | skip
        first
          | (simp only [Option.some.injEq] at hp
             subst hp
             simp [execOp, h.evalv hx, Op.unary, Op.intArith]
             done)
          | (rename_i kk n
             cases kk <;> first
               | (cases hp; done)
               | (simp only [Option.some.injEq] at hp
                  subst hp
                  simp [execOp, h.evalv hx, Op.unary, Op.intBits, notI, IntKind.signed]))
  case convert src dst x =>
    simp only [pureP] at hp
    cases hx : vl s x with
    | none => rw [hx] at hp; cases hp
    | some u =>
      rw [hx] at hp
      simp only [execOp, h.evalv hx]
      rw [Sem.run_bind, convP_run hp]
      rfl
  case extract t i =>
    simp only [pureP] at hp
    cases hx : vl s t with
    | none => rw [hx] at hp; cases hp
    | some u =>
      rw [hx] at hp
      cases u <;> first | (cases hp; done) | skip
      simp only at hp
      simp [execOp, h.evalv hx, Instr.extract, hp]
  case field t x f =>
    simp only [pureP] at hp
    cases hx : vl s x with
    | none => rw [hx] at hp; cases hp
    | some u =>
      rw [hx] at hp
      cases u <;> first | (cases hp; done) | skip
      cases hu : P.underlying t with
      | none => rw [hu] at hp; cases hp
      | some d =>
        rw [hu] at hp
        cases d <;> first | (cases hp; done) | skip
        rename_i cs fields
        simp only at hp
        cases hf : fields[f]? with
        | none => rw [hf] at hp; cases hp
        | some fd =>
          rw [hf] at hp
          simp only [execOp, h.evalv hx, Instr.field, Sem.run_bind, run_underlying hu, Result.andThen_ok, hf, asAgg, Sem.run_pure, partP_run hp]
  case build t parts =>
    simp only [pureP] at hp
    cases hx : vps s parts.toList with
    | none => rw [hx] at hp; cases hp
    | some ps =>
      rw [hx] at hp
      cases hb : P.built t ps with
      | none => simp only [hb] at hp; cases hp
      | some cells =>
        simp only [hb, Option.some.injEq] at hp
        subst hp
        have he := h.evalps hx
        have hb' : P.built t (parts.map fun (i, x) => (i, a.eval x)).toList = some cells := by
          rw [Array.toList_map, he]; exact hb
        simp only [execOp, Sem.run_bind, run_build w' t _ cells hb', Result.andThen_ok, Sem.run_pure]
  case makeFunc fn first caps =>
    simp only [pureP] at hp
    cases hx : vls s first.toList with
    | none => rw [hx] at hp; cases hp
    | some fs =>
      cases hy : vls s caps.toList with
      | none => rw [hx, hy] at hp; cases hp
      | some cs =>
        rw [hx, hy] at hp
        simp only [Option.some.injEq] at hp
        subst hp
        have h1 : first.map a.eval = fs.toArray := by rw [← h.evals hx, ← Array.toList_map]
        have h2 : caps.map a.eval = cs.toArray := by rw [← h.evals hy, ← Array.toList_map]
        simp [execOp, Instr.makeFunc, h1, h2]
  case makeInterface t x =>
    simp only [pureP] at hp
    cases hx : vl s x with
    | none => rw [hx] at hp; cases hp
    | some u =>
      rw [hx] at hp
      simp only at hp
      cases hc : P.concrete t with
      | false => rw [hc] at hp; cases hp
      | true =>
        rw [hc] at hp
        simp only [cond_true, Option.some.injEq] at hp
        subst hp
        simp only [execOp, h.evalv hx, Sem.run_bind, run_makeInterface w' t u hc, Result.andThen_ok, Sem.run_pure]
  case call c =>
    obtain ⟨callee, args, argTypes⟩ := c
    simp only [pureP] at hp
    cases callee
    case value => cases hp
    case invoke => cases hp
    case builtin b =>
      cases b <;> first | (cases hp; done) | skip
      case len =>
        cases args with | mk args =>
        cases argTypes with | mk argTypes =>
        rcases args with _ | ⟨x, _ | ⟨_, _⟩⟩ <;> first | (cases hp; done) | skip
        rcases argTypes with _ | ⟨t, _ | ⟨_, _⟩⟩ <;> first | (cases hp; done) | skip
        simp only at hp
        cases hx : vl s x with
        | none => rw [hx] at hp; cases hp
        | some u =>
          cases hu : P.underlying t with
          | none => rw [hx, hu] at hp; cases u <;> cases hp
          | some d =>
            rw [hx, hu] at hp
            cases u <;> cases d <;> simp only [Option.some.injEq] at hp <;> first | (cases hp; done) | skip
            all_goals
              subst hp
              simp [execOp, resolve, invoke, builtin, Builtin.len_, h.evalv hx, run_underlying hu, goInt]
      case min =>
        cases args with | mk args =>
        rcases args with _ | ⟨x, _ | ⟨y, _ | ⟨_, _⟩⟩⟩ <;> first | (cases hp; done) | skip
        simp only at hp
        cases hx : vl s x with
        | none => rw [hx] at hp; cases hp
        | some u =>
          cases hy : vl s y with
          | none => rw [hx, hy] at hp; cases u <;> cases hp
          | some z =>
            rw [hx, hy] at hp
            cases u <;> cases z <;> simp only [Option.some.injEq] at hp <;> first | (cases hp; done) | skip
            subst hp
            simp [execOp, resolve, invoke, builtin, Builtin.min_, Builtin.min2, h.evalv hx, h.evalv hy]
      case max =>
        cases args with | mk args =>
        rcases args with _ | ⟨x, _ | ⟨y, _ | ⟨_, _⟩⟩⟩ <;> first | (cases hp; done) | skip
        simp only at hp
        cases hx : vl s x with
        | none => rw [hx] at hp; cases hp
        | some u =>
          cases hy : vl s y with
          | none => rw [hx, hy] at hp; cases u <;> cases hp
          | some z =>
            rw [hx, hy] at hp
            cases u <;> cases z <;> simp only [Option.some.injEq] at hp <;> first | (cases hp; done) | skip
            subst hp
            simp [execOp, resolve, invoke, builtin, Builtin.max_, Builtin.max2, h.evalv hx, h.evalv hy]
  all_goals (simp only [pureP] at hp; cases hp)

/-! ### the state's own memory -/
def fieldP (P : Program) (t : TypeId) (f : Nat) : Option Nat :=
  match P.underlying t with
  | some (.struct fs) => match fs[f]? with
    | some fd => match P.info? fd.type with
      | some i => bif Nat.beq i.size 0 then none else some fd.offset
      | none => none
    | none => none
  | _ => none
theorem add_off (b off k : Nat) : (⟨b, off, none⟩ : Addr).add k = ⟨b, off + k, none⟩ := by
  unfold Addr.add; split <;> simp_all
theorem fieldP_run {P : Program} {t : TypeId} {f fo : Nat} (h : fieldP P t f = some fo) (a : Addr) (w : World) : (Instr.fieldAt t (.pointer (some a)) f).run P w = .ok (.pointer (some (a.add fo))) w := by
  unfold fieldP at h
  cases hu : P.underlying t with
  | none => rw [hu] at h; cases h
  | some d =>
    rw [hu] at h
    cases d <;> first | (cases h; done) | skip
    rename_i fs
    simp only at h
    cases hf : fs[f]? with
    | none => rw [hf] at h; cases h
    | some fd =>
      rw [hf] at h
      simp only at h
      cases hi : P.info? fd.type with
      | none => rw [hi] at h; cases h
      | some i =>
        rw [hi] at h
        simp only at h
        cases hz : Nat.beq i.size 0 with
        | true => rw [hz] at h; cases h
        | false =>
          rw [hz] at h
          simp only [cond_false, Option.some.injEq] at h
          subst h
          have hz' : i.size ≠ 0 := fun e => by rw [e] at hz; cases hz
          simp only [Instr.fieldAt, Sem.run_bind, run_underlying hu, Result.andThen_ok, hf, Instr.sureAddr, Sem.run_pure, fieldPlace]
          have hs : (sizeOf fd.type).run P w = .ok i.size w := by simp [sizeOf, typeInfo, hi]
          rw [hs, Result.andThen_ok, if_neg hz']
          rfl

/-- What a variable of type t holds, out of a row of cells. -/
def varP (P : Program) (t : TypeId) (cs : List Value) (off : Nat) : Option Value :=
  match P.underlying t, P.info? t with
  | some (.struct _), some i | some (.array _ _), some i => bif Nat.ble (off + i.size) cs.length then some (.agg ((cs.drop off).take i.size).toArray) else none
  | some _, some _ => cs[off]?
  | _, _ => none
theorem cell_row {w : World} {b : Nat} {cs : List Value} {t : Nat} (h : w.heap[b]? = some (.cells cs.toArray t (0, 0))) (j : Nat) : w.cell? ⟨b, j, none⟩ = cs[j]? := by
  simp [World.cell?, h]
theorem varP_run {P : Program} {t : TypeId} {cs : List Value} {off b : Nat} {v : Value} (h : varP P t cs off = some v) {w : World} {e : Nat} (hb : w.heap[b]? = some (.cells cs.toArray e (0, 0))) :
    (loadVar t ⟨b, off, none⟩).run P w = .ok v w := by
  unfold varP at h
  cases hu : P.underlying t with
  | none => rw [hu] at h; cases h
  | some d =>
    cases hi : P.info? t with
    | none => rw [hu, hi] at h; cases d <;> cases h
    | some i =>
      rw [hu, hi] at h
      have hs : (sizeOf t).run P w = .ok i.size w := by simp [sizeOf, typeInfo, hi]
      have agg : (bif Nat.ble (off + i.size) cs.length then some (Value.agg ((cs.drop off).take i.size).toArray) else none) = some v → (do pure (.agg (← loadCells ⟨b, off, none⟩ (← sizeOf t))) : Sem Value).run P w = .ok v w := by
        intro hv
        cases hl : Nat.ble (off + i.size) cs.length with
        | false => rw [hl] at hv; cases hv
        | true =>
          rw [hl] at hv
          simp only [cond_true, Option.some.injEq] at hv
          subst hv
          have hl' := Nat.le_of_ble_eq_true hl
          have hlen : ((cs.drop off).take i.size).length = i.size := by simp; omega
          have := run_loadCells_list (P := P) w ⟨b, off, none⟩ ((cs.drop off).take i.size) (fun j u hj => by
            rw [add_off, cell_row hb]
            rw [List.getElem?_take] at hj
            split at hj
            · rw [List.getElem?_drop] at hj; exact hj
            · cases hj)
          rw [hlen] at this
          rw [Sem.run_bind, hs, Result.andThen_ok, Sem.run_bind, this]
          rfl
      unfold loadVar
      rw [Sem.run_bind, isAgg_run hu, Result.andThen_ok]
      cases d
      case struct fs => exact agg h
      case array n e => exact agg h
      all_goals
        simp only at h
        simp only [Bool.false_eq_true, if_false, run_load, cell_row hb, h]

/-- The cells behind a store. -/
def storeP (P : Program) (t : TypeId) (v : Value) (cs : List Value) (off : Nat) : Option (List Value) :=
  match P.info? t with
  | some i => bif Nat.beq v.cells.toList.length i.size && Nat.ble (off + v.cells.toList.length) cs.length && v.cells.toList.all Value.oneCell' then some (cs.take off ++ v.cells.toList ++ cs.drop (off + v.cells.toList.length)) else none
  | none => none
theorem storeP_run {P : Program} {t : TypeId} {v : Value} {cs cs' : List Value} {off b : Nat} (h : storeP P t v cs off = some cs') {w : World} {e : Nat} (hb : w.heap[b]? = some (.cells cs.toArray e (0, 0))) :
    (storeVar t ⟨b, off, none⟩ v).run P w = .ok () (w.setRow b cs'.toArray) := by
  unfold storeP at h
  cases hi : P.info? t with
  | none => rw [hi] at h; cases h
  | some i =>
    rw [hi] at h
    simp only at h
    cases hc : (Nat.beq v.cells.toList.length i.size && Nat.ble (off + v.cells.toList.length) cs.length && v.cells.toList.all Value.oneCell') with
    | false => rw [hc] at h; cases h
    | true =>
      rw [hc] at h
      simp only [cond_true, Option.some.injEq] at h
      subst h
      simp only [Bool.and_eq_true] at hc
      obtain ⟨⟨h1, h2⟩, h3⟩ := hc
      have h1 := Nat.eq_of_beq_eq_true h1
      have h2 := Nat.le_of_ble_eq_true h2
      have hs : (sizeOf t).run P w = .ok i.size w := by simp [sizeOf, typeInfo, hi]
      have hsz : v.cells.size = i.size := by rw [← h1]; simp
      have := run_storeCells_at P b off e v.cells.toList 0 cs.toArray w hb (by simpa using h2) (fun u hu => List.all_eq_true.1 h3 u hu)
      simp only [storeVar, Sem.run_bind, hs, Result.andThen_ok, hsz, ne_eq, not_true_eq_false, if_false]
      rw [this]
      simp

def zeroP (P : Program) (t : TypeId) : Option Value := match P.info? t with | some i => i.zero | none => none
def sliceLit (P : Program) (t : TypeId) (len : Nat) (ps : List (Nat × Value)) : Option (Nat × List Value) :=
  match P.underlying t with
  | some (.slice e) => match P.info? e with
    | some i => match i.zero with
      | some z => bif Nat.ble (len * i.size) 16777216 then
          match Instr.fill (fun j => some (j * i.size, i.size)) (bif Nat.beq (len * i.size) 0 then #[] else ((Array.range (len * i.size)).map (z.cells[· % z.cells.size]!))) ps with
          | some cells => some (e, cells.toList)
          | none => none
        else none
      | none => none
    | none => none
  | _ => none
theorem sliceLit_run {P : Program} {t : TypeId} {len : Nat} {parts : Array (Nat × Value)} {e : Nat} {cs : List Value} (h : sliceLit P t len parts.toList = some (e, cs)) (w : World) :
    (Instr.buildSlice t len parts).run P w = .ok (.slice (some ⟨w.heap.size, 0, none⟩) len len) (w.alloc (.cells cs.toArray e (0, 0))) := by
  unfold sliceLit at h
  cases hu : P.underlying t with
  | none => rw [hu] at h; cases h
  | some d =>
    rw [hu] at h
    cases d <;> first | (cases h; done) | skip
    rename_i e'
    simp only at h
    cases hi : P.info? e' with
    | none => rw [hi] at h; cases h
    | some i =>
      rw [hi] at h
      simp only at h
      cases hz : i.zero with
      | none => rw [hz] at h; cases h
      | some z =>
        rw [hz] at h
        simp only at h
        cases hb : Nat.ble (len * i.size) 16777216 with
        | false => rw [hb] at h; cases h
        | true =>
          rw [hb] at h
          simp only [cond_true] at h
          have hle : ¬ (len * i.size > 2 ^ 24) := by have := Nat.le_of_ble_eq_true hb; omega
          have hs : ∀ w, (sizeOf e').run P w = .ok i.size w := fun w => by simp [sizeOf, typeInfo, hi]
          have hzr : ∀ w, (zeroValue e').run P w = .ok z w := fun w => by simp [zeroValue, typeInfo, hi, hz]
          simp only [Instr.buildSlice, Sem.run_bind, run_underlying hu, Result.andThen_ok, hs, if_neg hle]
          by_cases h0 : len * i.size = 0
          · have hb0 : Nat.beq (len * i.size) 0 = true := by rw [h0]; rfl
            rw [hb0] at h
            simp only [cond_true] at h
            cases hf : Instr.fill (fun j => some (j * i.size, i.size)) #[] parts.toList with
            | none => rw [hf] at h; cases h
            | some cells =>
              rw [hf] at h
              simp only [Option.some.injEq, Prod.mk.injEq] at h
              obtain ⟨rfl, rfl⟩ := h
              rw [h0]
              simp only [if_true, Sem.run_bind, Sem.run_pure, Result.andThen_ok]
              have hr : ∀ f : Nat → Value, (Array.range 0).map f = #[] := fun _ => by simp
              rw [hr, hf]
              simp [newRow]
          · have hb0 : Nat.beq (len * i.size) 0 = false := by
              cases hq : Nat.beq (len * i.size) 0 with
              | false => rfl
              | true => exact absurd (Nat.eq_of_beq_eq_true hq) h0
            rw [hb0] at h
            simp only [cond_false] at h
            cases hf : Instr.fill (fun j => some (j * i.size, i.size)) ((Array.range (len * i.size)).map (z.cells[· % z.cells.size]!)) parts.toList with
            | none => rw [hf] at h; cases h
            | some cells =>
              rw [hf] at h
              simp only [Option.some.injEq, Prod.mk.injEq] at h
              obtain ⟨rfl, rfl⟩ := h
              rw [if_neg h0]
              simp only [Sem.run_bind, hzr, Result.andThen_ok, Sem.run_pure, hf, newRow, run_newObj]
              simp

/-! ### one operation -/
def pickS (c : Bool) : SV → SV → SV
  | .v (.bool p), .v (.bool q) => .v (.bool (bif c then p else q))
  | x, y => bif c then x else y
theorem pickS_val (c : Bool) (x y : SV) : (pickS c x y).val = if c = true then x.val else y.val := by
  unfold pickS
  split <;> cases c <;> rfl
def setL : List (Nat × SO) → Nat → List Value → List (Nat × SO)
  | [], _, _ => []
  | (i, so) :: r, d, cs => bif Nat.beq i d then (match so with | .cells b _ t => (i, .cells b cs t) | .obj b o => (i, .obj b o)) :: r else (i, so) :: setL r d cs

/-- What operation o does to the symbolic state; b: the number of the block that it may make; the Bool: it makes one. -/
def opM (P : Program) (n b : Nat) (s : SS) (dst : Option Tmp) (op : Op) : Option (SS × Bool) :=
  bif okD n dst then
    match op with
    | .move x | .assign x => match sv s x with
      | some y => some (⟨putS dst y s.S, s.L, s.R, s.nx⟩, false)
      | none => none
    | .pick c x y => match vl s c, sv s x, sv s y with
      | some (.bool c), some x, some y => some (⟨putS dst (pickS c x y) s.S, s.L, s.R, s.nx⟩, false)
      | _, _, _ => none
    | .fieldAddr t x f => match fieldP P t f, sv s x with
      | some fo, some (.l i bb off) => some (⟨putS dst (.l i bb (off + fo)) s.S, s.L, s.R, s.nx⟩, false)
      | some fo, some (.v (.pointer (some ad))) => some (⟨putS dst (.v (.pointer (some (ad.add fo)))) s.S, s.L, s.R, s.nx⟩, false)
      | _, _ => none
    | .load t x => match sv s x with
      | some (.l i _ off) => match lk s.L i with
        | some (.cells _ cs _) => match varP P t cs off with
          | some v => some (⟨putS dst (.v v) s.S, s.L, s.R, s.nx⟩, false)
          | none => none
        | _ => none
      | _ => none
    | .store t x y => match dst, sv s x, vl s y with
      | none, some (.l i _ off), some v => match lk s.L i with
        | some (.cells _ cs _) => match storeP P t v cs off with
          | some cs' => some (⟨s.S, setL s.L i cs', s.R, s.nx⟩, false)
          | none => none
        | _ => none
      | _, _, _ => none
    | .box t x => match vl s x with
      | some v => some (⟨putS dst (.l s.nx b 0) s.S, (s.nx, .cells b v.cells.toList t) :: s.L, s.R, s.nx + 1⟩, true)
      | none => none
    | .alloc t => match zeroP P t with
      | some v => some (⟨putS dst (.l s.nx b 0) s.S, (s.nx, .cells b v.cells.toList t) :: s.L, s.R, s.nx + 1⟩, true)
      | none => none
    | .buildSlice t len parts => match vps s parts.toList with
      | some ps => match sliceLit P t len ps with
        | some (e, cs) => some (⟨putS dst (.v (.slice (some ⟨b, 0, none⟩) len len)) s.S, (s.nx, .cells b cs e) :: s.L, s.R, s.nx + 1⟩, true)
        | none => none
      | none => none
    | op => match pureP P s op with
      | some v => some (⟨putS dst (.v v) s.S, s.L, s.R, s.nx⟩, false)
      | none => none
  else none

theorem lk_none_of_fresh {l : List (Nat × SO)} {nx : Nat} (h : ∀ i so, lk l i = some so → i < nx) (x : SO) : ∀ i so, lk ((nx, x) :: l) i = some so → i < nx + 1 := by
  intro i so hi
  rw [lk_cons] at hi
  by_cases e : nx = i
  · omega
  · rw [if_neg e] at hi
    have := h i so hi
    omega
theorem lk_keep_fresh {l : List (Nat × SO)} {nx : Nat} (h : ∀ i so, lk l i = some so → i < nx) (x : SO) : ∀ i so, lk l i = some so → ∃ so', lk ((nx, x) :: l) i = some so' ∧ so'.b = so.b := by
  intro i so hi
  have := h i so hi
  refine ⟨so, ?_, rfl⟩
  rw [lk_cons, if_neg (by omega)]
  exact hi

theorem St.alloc {cx : Cx} {M : Mem} {L : List (Nat × SO)} {R : List (Nat × RowI)} {w : World} (h : St cx M L R w) (o : Obj) (i : Nat) (so : SO) (hb : so.b = w.heap.size) (ho : so.o = o) : St cx M ((i, so) :: L) R (w.alloc o) := by
  have hlt := h.lt
  have hold : ∀ k, k < w.heap.size → (w.alloc o).heap[k]? = w.heap[k]? := fun k hk => Below.heap_alloc w o k hk
  refine ⟨?_, ?_, ?_, ?_, ?_⟩
  · have e := h.ext
    refine ⟨e.os, e.tape, e.output, Nat.le_trans e.size (by simp), fun k hk hn => (hold k (Nat.lt_of_lt_of_le hk e.size)).trans (e.keep k hk hn), e.le, fun a v ha => ?_, e.new, e.drawn⟩
    have hc := e.sat a v ha
    exact (World.cell?_of_block (w := w) (w' := w.alloc o) (hold a.block (World.block_lt_of_cell? w a hc))).trans hc
  · intro p hp
    rcases List.mem_cons.1 hp with rfl | hp
    · show (w.alloc o).heap[so.b]? = some so.o
      rw [hb, ho]
      exact heap_alloc_new w o
    · rw [hold p.2.b (hlt p.2.b (by simp only [blks, List.mem_append, List.mem_map]; exact .inl ⟨p, hp, rfl⟩))]
      exact h.obj p hp
  · intro p hp
    exact (h.row p hp).alloc o
  · show (so.b :: blks L R).Nodup
    refine List.nodup_cons.2 ⟨fun hm => ?_, h.nodup⟩
    have := hlt _ hm
    omega
  · intro b hbm
    have hbm' : b ∈ so.b :: blks L R := hbm
    rcases List.mem_cons.1 hbm' with rfl | hm
    · refine ⟨.inl (by rw [hb]; exact h.ext.size), fun a ha => h.sat.none_new (by rw [ha, hb]; exact Nat.le_refl _)⟩
    · exact h.free b hm

theorem setL_lk {l : List (Nat × SO)} {d b : Nat} {cs cs' : List Value} {t : Nat} : ∀ i so, lk l i = some so → ∃ so', lk (setL l d cs') i = some so' ∧ so'.b = so.b := by
  induction l with
  | nil => intro i so h; cases h
  | cons p r ih =>
    intro i so h
    obtain ⟨j, x⟩ := p
    rw [lk_cons] at h
    simp only [setL]
    cases hb : Nat.beq j d with
    | true =>
      simp only [cond_true]
      by_cases e : j = i
      · rw [if_pos e] at h
        injection h with h
        subst h
        cases x <;> (simp only; rw [lk_cons, if_pos e]; exact ⟨_, rfl, rfl⟩)
      · rw [if_neg e] at h
        cases x <;> (simp only; rw [lk_cons, if_neg e]; exact ⟨so, h, rfl⟩)
    | false =>
      simp only [cond_false]
      by_cases e : j = i
      · rw [if_pos e] at h
        injection h with h
        subst h
        rw [lk_cons, if_pos e]
        exact ⟨_, rfl, rfl⟩
      · rw [if_neg e] at h
        rw [lk_cons, if_neg e]
        exact ih i so h
theorem setL_ids {l : List (Nat × SO)} {d : Nat} {cs' : List Value} : ∀ i so, lk (setL l d cs') i = some so → ∃ so', lk l i = some so' := by
  induction l with
  | nil => intro i so h; cases h
  | cons p r ih =>
    intro i so h
    obtain ⟨j, x⟩ := p
    rw [lk_cons]
    by_cases e : j = i
    · rw [if_pos e]; exact ⟨x, rfl⟩
    · rw [if_neg e]
      simp only [setL] at h
      cases hb : Nat.beq j d with
      | true =>
        rw [hb] at h
        simp only [cond_true] at h
        cases x <;> (simp only at h; rw [lk_cons, if_neg e] at h; exact ⟨so, h⟩)
      | false =>
        rw [hb] at h
        simp only [cond_false] at h
        rw [lk_cons, if_neg e] at h
        exact ih i so h
theorem setL_blks {l : List (Nat × SO)} {d : Nat} {cs' : List Value} : (setL l d cs').map (·.2.b) = l.map (·.2.b) := by
  induction l with
  | nil => rfl
  | cons p r ih =>
    obtain ⟨j, x⟩ := p
    simp only [setL]
    cases hb : Nat.beq j d with
    | true => cases x <;> rfl
    | false => simp only [cond_false, List.map_cons, ih]
theorem setL_mem {l : List (Nat × SO)} {d b : Nat} {cs cs' : List Value} {t : Nat} (hd : (l.map (·.2.b)).Nodup) (h : lk l d = some (.cells b cs t)) : ∀ p ∈ setL l d cs', p.2 = .cells b cs' t ∨ (p ∈ l ∧ p.2.b ≠ b) := by
  induction l with
  | nil => intro p hp; cases hp
  | cons q r ih =>
    intro p hp
    obtain ⟨j, x⟩ := q
    simp only [List.map_cons, List.nodup_cons] at hd
    rw [lk_cons] at h
    simp only [setL] at hp
    cases hb : Nat.beq j d with
    | true =>
      rw [hb] at hp
      simp only [cond_true] at hp
      have e := Nat.eq_of_beq_eq_true hb
      rw [if_pos e] at h
      injection h with h
      subst h
      simp only [List.mem_cons] at hp
      rcases hp with rfl | hp
      · exact .inl rfl
      · refine .inr ⟨List.mem_cons_of_mem _ hp, fun hpb => hd.1 ?_⟩
        exact List.mem_map.2 ⟨p, hp, hpb⟩
    | false =>
      rw [hb] at hp
      simp only [cond_false] at hp
      have e : j ≠ d := fun e => by subst e; simp at hb
      rw [if_neg e] at h
      rcases List.mem_cons.1 hp with rfl | hp
      · refine .inr ⟨List.mem_cons_self, fun hxb => hd.1 ?_⟩
        exact List.mem_map.2 ⟨(d, .cells b cs t), lk_mem h, hxb.symm⟩
      · rcases ih hd.2 h p hp with h1 | ⟨h1, h2⟩
        · exact .inl h1
        · exact .inr ⟨List.mem_cons_of_mem _ h1, h2⟩

/-- A block of the state's own, written. -/
theorem St.write {cx : Cx} {M : Mem} {L : List (Nat × SO)} {R : List (Nat × RowI)} {w w' : World} (h : St cx M L R w) {d b : Nat} {cs cs' : List Value} {t : Nat} (hl : lk L d = some (.cells b cs t))
    (hb : w'.heap[b]? = some (.cells cs'.toArray t (0, 0))) (hne : ∀ k, k ≠ b → w'.heap[k]? = w.heap[k]?) (hsz : w'.heap.size = w.heap.size) (hos : w'.os = w.os) (htape : w'.tape = w.tape) (hout : w'.output = w.output) (hdr : w.drawn ≤ w'.drawn := by exact Nat.le_refl _) : St cx M (setL L d cs') R w' := by
  have hmem := lk_mem hl
  have hbb : b ∈ blks L R := by simp only [blks, List.mem_append, List.mem_map]; exact .inl ⟨_, hmem, rfl⟩
  have hnd : (L.map (·.2.b)).Nodup := (List.nodup_append.1 h.nodup).1
  have hcross : ∀ p ∈ R, p.2.v.ownBlock ≠ some b := fun p hp e => by
    have h2 := (List.nodup_append.1 h.nodup).2.2
    exact h2 b (List.mem_map.2 ⟨_, hmem, rfl⟩) b (List.mem_filterMap.2 ⟨p, hp, e⟩) rfl
  have hMb := (h.free b hbb).2
  refine ⟨?_, ?_, ?_, ?_, ?_⟩
  · have e := h.ext
    refine ⟨hos.trans e.os, htape.trans e.tape, hout.trans e.output, by rw [hsz]; exact e.size, fun k hk hn => ?_, e.le, fun a v ha => ?_, e.new, fun d => Nat.le_trans (e.drawn d) hdr⟩
    · by_cases hkb : k = b
      · subst hkb
        rcases (h.free k hbb).1 with h1 | h1
        · exact absurd hk (Nat.not_lt.2 h1)
        · exact absurd h1 hn
      · exact (hne k hkb).trans (e.keep k hk hn)
    · have hab : a.block ≠ b := fun e' => by rw [hMb a e'] at ha; cases ha
      exact (World.cell?_of_block (w := w) (w' := w') (hne a.block hab)).trans (e.sat a v ha)
  · intro p hp
    rcases setL_mem hnd hl p hp with h1 | ⟨h1, h2⟩
    · rw [h1]; exact hb
    · rw [hne p.2.b h2]; exact h.obj p h1
  · intro p hp
    refine (h.row p hp).kept (row := some b) ⟨hos, htape, hout, by rw [hsz]; exact Nat.le_refl _, fun k _ hk => hne k (fun e => hk (by rw [e]))⟩ ?_
    exact .inr (hcross p hp)
  · have : blks (setL L d cs') R = blks L R := by simp only [blks, setL_blks]
    rw [this]; exact h.nodup
  · have : blks (setL L d cs') R = blks L R := by simp only [blks, setL_blks]
    rw [this]; exact h.free

theorem zeroP_run {P : Program} {t : TypeId} {v : Value} (h : zeroP P t = some v) (w : World) : (zeroValue t).run P w = .ok v w := by
  unfold zeroP at h
  cases hi : P.info? t with
  | none => rw [hi] at h; cases h
  | some i =>
    rw [hi] at h
    simp [zeroValue, typeInfo, hi, h]

theorem opM_sound {P : Program} {cx : Cx} {M : Mem} {s : SS} {a : Act} {w : World} (h : Holds cx M s a w) (o : Oper) {s' : SS} {b : Nat} {used : Bool} (hs : opM P cx.n b s o.dst o.op = some (s', used)) (hb : used = true → b = w.heap.size)
    (K : Act → World → Prop) (Q : Exit → Act → World → Prop) (hK : ∀ a' w', Holds cx M s' a' w' → K a' w') : o.wp P a w K Q := by
  obtain ⟨dst, op, type, pos, after, guard⟩ := o
  simp only [opM] at hs
  cases hd : okD cx.n dst with
  | false => rw [hd] at hs; cases hs
  | true =>
    rw [hd] at hs
    simp only [cond_true] at hs
    have keep : ∀ i so, lk s.L i = some so → ∃ so', lk s.L i = some so' ∧ so'.b = so.b := fun i so hi => ⟨so, hi, rfl⟩
    have plain : ∀ y : SV, (∀ i b off, y = .l i b off → ∃ so, lk s.L i = some so ∧ so.b = b) → Holds cx M ⟨putS dst y s.S, s.L, s.R, s.nx⟩ (a.put dst y.val) w := fun y hy => h.put dst y hd hy keep h.ids h.st
    have tagged : ∀ (x : Operand) (y : SV), sv s x = some y → ∀ i b off, y = .l i b off → ∃ so, lk s.L i = some so ∧ so.b = b := by
      intro x y hx i b off e
      subst e
      cases x with
      | tmp t => exact h.locs t i b off hx
      | const v => simp [sv] at hx
      | func f => simp [sv] at hx
      | global g => simp [sv] at hx
    have fresh : ∀ (v : SV) (o' : SO) (w1 : World), o'.b = w.heap.size → w1 = w.alloc o'.o → (∀ i b off, v = .l i b off → i = s.nx ∧ b = o'.b) → Holds cx M ⟨putS dst v s.S, (s.nx, o') :: s.L, s.R, s.nx + 1⟩ (a.put dst v.val) w1 := by
      intro v o' w1 hob hw1 hv
      subst hw1
      refine h.put dst v hd (fun i b off e => ?_) (lk_keep_fresh h.ids o') (lk_none_of_fresh h.ids o') (h.st.alloc o'.o s.nx o' hob rfl)
      obtain ⟨rfl, rfl⟩ := hv i b off e
      exact ⟨o', by rw [lk_cons, if_pos rfl], rfl⟩
    have pure' : (match pureP P s op with | some v => some ((⟨putS dst (.v v) s.S, s.L, s.R, s.nx⟩ : SS), false) | none => none) = some (s', used) → (⟨dst, op, type, pos, after, guard⟩ : Oper).wp P a w K Q := by
      intro hp
      cases hv : pureP P s op with
      | none => rw [hv] at hp; cases hp
      | some v =>
        rw [hv] at hp
        simp only [Option.some.injEq, Prod.mk.injEq] at hp
        obtain ⟨rfl, rfl⟩ := hp
        unfold Oper.wp
        rw [pureP_run (o := ⟨dst, op, type, pos, after, guard⟩) h hv w]
        exact hK _ _ (plain (.v v) (fun _ _ _ e => by cases e))
    cases op <;> simp only at hs <;> first | exact pure' hs | skip
    case move x =>
      cases hx : sv s x with
      | none => rw [hx] at hs; cases hs
      | some y =>
        rw [hx] at hs
        simp only [Option.some.injEq, Prod.mk.injEq] at hs
        obtain ⟨rfl, rfl⟩ := hs
        unfold Oper.wp
        simp only [execOp, Sem.run_pure, h.eval hx]
        exact hK _ _ (plain y (tagged x y hx))
    case assign x =>
      cases hx : sv s x with
      | none => rw [hx] at hs; cases hs
      | some y =>
        rw [hx] at hs
        simp only [Option.some.injEq, Prod.mk.injEq] at hs
        obtain ⟨rfl, rfl⟩ := hs
        unfold Oper.wp
        simp only [execOp, Sem.run_pure, h.eval hx]
        exact hK _ _ (plain y (tagged x y hx))
    case pick c x y =>
      cases hc : vl s c with
      | none => rw [hc] at hs; cases hs
      | some u =>
        cases u <;> first | (rw [hc] at hs; cases hs; done) | skip
        rename_i cc
        cases hx : sv s x with
        | none => rw [hc, hx] at hs; cases hs
        | some p =>
          cases hy : sv s y with
          | none => rw [hc, hx, hy] at hs; cases hs
          | some q =>
            rw [hc, hx, hy] at hs
            simp only [Option.some.injEq, Prod.mk.injEq] at hs
            obtain ⟨rfl, rfl⟩ := hs
            unfold Oper.wp
            simp only [execOp, Sem.run_bind, h.evalv hc, asBool, Sem.run_pure, Result.andThen_ok, h.eval hx, h.eval hy]
            have := plain (pickS cc p q) (fun i b off e => by
              unfold pickS at e
              split at e
              · cases e
              · cases cc
                · exact tagged y q hy i b off e
                · exact tagged x p hx i b off e)
            rw [pickS_val] at this
            exact hK _ _ this
    case fieldAddr t x f =>
      cases hf : fieldP P t f with
      | none => rw [hf] at hs; cases hs
      | some fo =>
        cases hx : sv s x with
        | none => rw [hf, hx] at hs; cases hs
        | some y =>
          rw [hf, hx] at hs
          cases y with
          | l i bb off =>
            simp only [Option.some.injEq, Prod.mk.injEq] at hs
            obtain ⟨rfl, rfl⟩ := hs
            unfold Oper.wp
            simp only [execOp, Sem.run_bind, h.eval hx, SV.val, fieldP_run hf, Result.andThen_ok, Sem.run_pure]
            have := plain (.l i bb (off + fo)) (fun i' b' off' e => by injection e with e1 e2 e3; subst e1; subst e2; exact tagged x _ hx _ _ _ rfl)
            rw [add_off]
            exact hK _ _ this
          | v u =>
            cases u <;> first | (cases hs; done) | skip
            rename_i ad
            cases ad with
            | none => cases hs
            | some ad =>
              simp only [Option.some.injEq, Prod.mk.injEq] at hs
              obtain ⟨rfl, rfl⟩ := hs
              unfold Oper.wp
              simp only [execOp, Sem.run_bind, h.eval hx, SV.val, fieldP_run hf, Result.andThen_ok, Sem.run_pure]
              exact hK _ _ (plain (.v (.pointer (some (ad.add fo)))) (fun _ _ _ e => by cases e))
    case load t x =>
      cases hx : sv s x with
      | none => rw [hx] at hs; cases hs
      | some y =>
        rw [hx] at hs
        cases y with
        | v u => cases hs
        | l i bb off =>
          simp only at hs
          cases hl : lk s.L i with
          | none => rw [hl] at hs; cases hs
          | some so =>
            rw [hl] at hs
            cases so with
            | obj _ _ => cases hs
            | cells b' cs e =>
              simp only at hs
              cases hv : varP P t cs off with
              | none => rw [hv] at hs; cases hs
              | some v =>
                rw [hv] at hs
                simp only [Option.some.injEq, Prod.mk.injEq] at hs
                obtain ⟨rfl, rfl⟩ := hs
                obtain ⟨so, h1, h2⟩ := tagged x _ hx i bb off rfl
                rw [hl] at h1
                injection h1 with h1
                subst h1
                have hb' : b' = bb := h2
                subst hb'
                have hheap : w.heap[b']? = some (.cells cs.toArray e (0, 0)) := h.st.obj _ (lk_mem hl)
                unfold Oper.wp
                simp only [execOp, Sem.run_bind, h.eval hx, SV.val, Instr.loadAt, Instr.sureAddr, Sem.run_pure, Result.andThen_ok, varP_run hv hheap]
                exact hK _ _ (plain (.v v) (fun _ _ _ e => by cases e))
    case store t x y =>
      cases dst with
      | some d => cases hs
      | none =>
        cases hx : sv s x with
        | none => rw [hx] at hs; cases hs
        | some y' =>
          cases y' with
          | v u => rw [hx] at hs; cases hs
          | l i bb off =>
            cases hv : vl s y with
            | none => rw [hx, hv] at hs; cases hs
            | some v =>
              rw [hx, hv] at hs
              simp only at hs
              cases hl : lk s.L i with
              | none => rw [hl] at hs; cases hs
              | some so =>
                rw [hl] at hs
                cases so with
                | obj _ _ => cases hs
                | cells b' cs e =>
                  simp only at hs
                  cases hc : storeP P t v cs off with
                  | none => rw [hc] at hs; cases hs
                  | some cs' =>
                    rw [hc] at hs
                    simp only [Option.some.injEq, Prod.mk.injEq] at hs
                    obtain ⟨rfl, rfl⟩ := hs
                    obtain ⟨so, h1, h2⟩ := tagged x _ hx i bb off rfl
                    rw [hl] at h1
                    injection h1 with h1
                    subst h1
                    have hb' : b' = bb := h2
                    subst hb'
                    have hheap : w.heap[b']? = some (.cells cs.toArray e (0, 0)) := h.st.obj _ (lk_mem hl)
                    unfold Oper.wp
                    simp only [execOp, Sem.run_bind, h.eval hx, SV.val, Instr.storeAt, Instr.sureAddr, Sem.run_pure, Result.andThen_ok, h.evalv hv, storeP_run hc hheap]
                    refine hK _ _ ?_
                    refine ⟨h.size, h.defers, h.slots, fun t i' b'' off' ht => ?_, fun i' so hi => ?_, ?_⟩
                    · obtain ⟨so, h3, h4⟩ := h.locs t i' b'' off' ht
                      obtain ⟨so', h5, h6⟩ := setL_lk (d := i) (cs' := cs') (b := 0) (cs := []) (t := 0) i' so h3
                      exact ⟨so', h5, h6.trans h4⟩
                    · obtain ⟨so', h5⟩ := setL_ids i' so hi
                      exact h.ids i' so' h5
                    · exact h.st.write hl (setRow_heap w b' _ _ e _ hheap) (fun k hk => setRow_other w b' k _ hk) (by simp [World.setRow]) rfl rfl rfl
    case box t x =>
      cases hx : vl s x with
      | none => rw [hx] at hs; cases hs
      | some v =>
        rw [hx] at hs
        simp only [Option.some.injEq, Prod.mk.injEq] at hs
        obtain ⟨rfl, rfl⟩ := hs
        have hbb := hb rfl
        subst hbb
        unfold Oper.wp
        simp only [execOp, Sem.run_bind, h.evalv hx, Instr.box, newVar, newRow, run_newObj, Result.andThen_ok, Sem.run_pure]
        exact hK _ _ (fresh (.l s.nx w.heap.size 0) (.cells w.heap.size v.cells.toList t) _ rfl (by simp [SO.o]) (fun i b off e => by injection e with e1 e2 e3; exact ⟨e1.symm, e2.symm⟩))
    case alloc t =>
      cases hx : zeroP P t with
      | none => rw [hx] at hs; cases hs
      | some v =>
        rw [hx] at hs
        simp only [Option.some.injEq, Prod.mk.injEq] at hs
        obtain ⟨rfl, rfl⟩ := hs
        have hbb := hb rfl
        subst hbb
        unfold Oper.wp
        simp only [execOp, Sem.run_bind, Instr.alloc, zeroP_run hx, newVar, newRow, run_newObj, Result.andThen_ok, Sem.run_pure]
        exact hK _ _ (fresh (.l s.nx w.heap.size 0) (.cells w.heap.size v.cells.toList t) _ rfl (by simp [SO.o]) (fun i b off e => by injection e with e1 e2 e3; exact ⟨e1.symm, e2.symm⟩))
    case buildSlice t len parts =>
      cases hx : vps s parts.toList with
      | none => rw [hx] at hs; cases hs
      | some ps =>
        rw [hx] at hs
        simp only at hs
        cases hl : sliceLit P t len ps with
        | none => rw [hl] at hs; cases hs
        | some ec =>
          obtain ⟨e, cs⟩ := ec
          rw [hl] at hs
          simp only [Option.some.injEq, Prod.mk.injEq] at hs
          obtain ⟨rfl, rfl⟩ := hs
          have hbb := hb rfl
          subst hbb
          have hps : (parts.map fun (i, x) => (i, a.eval x)).toList = ps := by rw [Array.toList_map]; exact h.evalps hx
          unfold Oper.wp
          simp only [execOp, Sem.run_bind, sliceLit_run (P := P) (parts := parts.map fun (i, x) => (i, a.eval x)) (by rw [hps]; exact hl) w, Result.andThen_ok, Sem.run_pure]
          exact hK _ _ (fresh (.v (.slice (some ⟨w.heap.size, 0, none⟩) len len)) (.cells w.heap.size cs e) _ rfl rfl (fun _ _ _ e => by cases e))

/-! ### judgements -/
/-- In every state that s describes, X. -/
def J (cx : Cx) (M : Mem) (s : SS) (X : Act → World → Prop) : Prop := ∀ a w, Holds cx M s a w → X a w

def guardS (l : List Oper) (s : SS) : Option (Nat × Bool) → Option Bool
  | none => some true
  | some (j, want) => match l[j]? with
    | some o => match o.dst with
      | some t => match lk s.S t with
        | some (.v (.bool c)) => some (bif want then c else !c)
        | some (.v (.tuple _)) => some false
        | _ => none
      | none => none
    | none => none

theorem guardS_wanted {cx : Cx} {M : Mem} {s : SS} {a : Act} {w : World} (h : Holds cx M s a w) {l : List Oper} {o : Oper} {c : Bool} (hg : guardS l s o.guard = some c) : Region.wanted o (yielded l.toArray a.tmps) = c := by
  unfold Region.wanted
  cases hgd : o.guard with
  | none => rw [hgd] at hg; simp only [guardS, Option.some.injEq] at hg; exact hg
  | some jw =>
    obtain ⟨j, want⟩ := jw
    rw [hgd] at hg
    simp only [guardS] at hg
    cases hj : l[j]? with
    | none => rw [hj] at hg; cases hg
    | some oj =>
      rw [hj] at hg
      simp only at hg
      cases hd : oj.dst with
      | none => rw [hd] at hg; cases hg
      | some t =>
        rw [hd] at hg
        simp only at hg
        cases hl : lk s.S t with
        | none => rw [hl] at hg; cases hg
        | some x =>
          have hx := h.slots t x hl
          have hget : a.tmps[t]? = some x.val := by
            have hlt : t < a.tmps.size := by rw [h.size]; exact hx.1
            have := hx.2
            rw [Array.getD_eq_getD_getElem?, Array.getElem?_eq_getElem hlt] at this
            rw [Array.getElem?_eq_getElem hlt]
            exact congrArg some this
          have hy : yielded l.toArray a.tmps j = (match x.val with | .bool b => some b | _ => none) := by
            unfold yielded
            simp only [List.getElem?_toArray, hj, Option.bind_some, hd, hget]
            generalize x.val = u
            cases u <;> rfl
          cases x with
          | l i b off => rw [hl] at hg; cases hg
          | v u =>
            rw [hl] at hg
            cases u with
            | bool c' =>
              simp only [Option.some.injEq] at hg
              simp only [hy, SV.val]
              subst hg
              cases want <;> cases c' <;> rfl
            | tuple vs =>
              simp only [Option.some.injEq] at hg
              subst hg
              simp only [hy, SV.val]
              rfl
            | _ => cases hg

def stepS (P : Program) (n : Nat) (l : List Oper) (b : Nat) (s : SS) (o : Oper) : Option (SS × Bool) :=
  match guardS l s o.guard with
  | some true => opM P n b s o.dst o.op
  | some false => bif okD n o.dst then some (⟨putS o.dst (.v undef) s.S, s.L, s.R, s.nx⟩, false) else none
  | none => none
def execN (P : Program) (n : Nat) (l : List Oper) (f : Nat → Nat) : Nat → List Oper → Nat → SS → Option SS
  | 0, _, _, s => some s
  | m + 1, o :: r, j, s => match stepS P n l (f j) s o with
    | some (s', _) => execN P n l f m r (j + 1) s'
    | none => none
  | _ + 1, [], _, _ => none

theorem stepS_sound {P : Program} {cx : Cx} {M : Mem} {s : SS} {a : Act} {w : World} (h : Holds cx M s a w) {l rest : List Oper} {o : Oper} {s' : SS} {b : Nat} {used : Bool} (hs : stepS P cx.n l b s o = some (s', used)) (hb : used = true → b = w.heap.size)
    {Q : Exit → Act → World → Prop} (hK : ∀ a' w', Holds cx M s' a' w' → wpList P l.toArray Q rest a' w') : wpList P l.toArray Q (o :: rest) a w := by
  unfold stepS at hs
  cases hg : guardS l s o.guard with
  | none => rw [hg] at hs; cases hs
  | some c =>
    rw [hg] at hs
    have hw := guardS_wanted h hg
    cases c with
    | true =>
      simp only at hs
      unfold wpList
      rw [if_pos hw]
      exact .inl (opM_sound h o hs hb _ _ hK)
    | false =>
      simp only at hs
      unfold wpList
      rw [hw]
      simp only [Bool.false_eq_true, if_false]
      cases hd : okD cx.n o.dst with
      | false => rw [hd] at hs; cases hs
      | true =>
        rw [hd] at hs
        simp only [cond_true, Option.some.injEq, Prod.mk.injEq] at hs
        obtain ⟨rfl, rfl⟩ := hs
        exact hK _ _ (h.put o.dst (.v undef) hd (fun _ _ _ e => by cases e) (fun i so hi => ⟨so, hi, rfl⟩) h.ids h.st)

theorem execN_sound {P : Program} {cx : Cx} {M : Mem} {l : List Oper} {Q : Exit → Act → World → Prop} : ∀ (m : Nat) (rest : List Oper) (j : Nat) (s : SS) (a : Act) (w : World) (g : Nat → Nat) (s'' : (Nat → Nat) → SS),
    (∀ f : Nat → Nat, (∀ i, i < j → f i = g i) → execN P cx.n l f m rest j s = some (s'' f)) → Holds cx M s a w →
    (∀ f, J cx M (s'' f) (wpList P l.toArray Q (rest.drop m))) → wpList P l.toArray Q rest a w := by
  intro m
  induction m with
  | zero =>
    intro rest j s a w g s'' he h K
    have := he g (fun _ _ => rfl)
    simp only [execN, Option.some.injEq] at this
    rw [this] at h
    exact K g a w h
  | succ m ih =>
    intro rest j s a w g s'' he h K
    cases rest with
    | nil =>
      have := he g (fun _ _ => rfl)
      simp [execN] at this
    | cons o r =>
      have e0 := he (fun i => if i = j then w.heap.size else g i) (fun i hi => if_neg (by omega))
      simp only [execN, if_true] at e0
      cases hst : stepS P cx.n l w.heap.size s o with
      | none => rw [hst] at e0; cases e0
      | some su =>
        obtain ⟨s1, used⟩ := su
        refine stepS_sound h hst (fun _ => rfl) (fun a' w' h' => ?_)
        refine ih r (j + 1) s1 a' w' (fun i => if i = j then w.heap.size else g i) s'' (fun f hf => ?_) h' (fun f => K f)
        have hfj : f j = w.heap.size := by have := hf j (by omega); simpa using this
        have := he f (fun i hi => by have := hf i (by omega); rw [this]; exact if_neg (by omega))
        simp only [execN, hfj, hst] at this
        exact this
end Go.Eng
