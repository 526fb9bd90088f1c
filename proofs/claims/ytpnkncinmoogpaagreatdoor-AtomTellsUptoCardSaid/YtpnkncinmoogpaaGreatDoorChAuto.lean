/- THE ENGINE, part 12: what printed walks stand on: a plain function (with rounds) beside each Go function. -/
import Derived.Test.YtpnkncinmoogpaaGreatDoorChEngj
import Derived.Laws.BytesString
set_option linter.unusedVariables false
namespace Go.Eng
open Go Go.RowKit

/-! ### plain words -/
theorem ne_t {b : Bool} (h : b = false) : ¬ b = true := by rw [h]; exact Bool.false_ne_true
theorem bnot_t {b : Bool} (h : (!b) = true) : b = false := by cases b <;> first | rfl | cases h
theorem bnot_f {b : Bool} (h : (!b) = false) : b = true := by cases b <;> first | rfl | cases h
theorem bne_t {a b : Int} (h : (a != b) = true) : ¬ a = b := fun e => by subst e; simp at h
theorem bne_f {a b : Int} (h : (a != b) = false) : a = b := by simpa using h
theorem if_t {α : Type} {c : Prop} [Decidable c] {A B : Option α} {r : α} (hc : c) (h : (if c then A else B) = some r) : A = some r := by rw [if_pos hc] at h; exact h
theorem if_f {α : Type} {c : Prop} [Decidable c] {A B : Option α} {r : α} (hc : ¬ c) (h : (if c then A else B) = some r) : B = some r := by rw [if_neg hc] at h; exact h
theorem bind_t {α β : Type} {o : Option α} {g : α → Option β} {r : β} (h : o.bind g = some r) : ∃ t, o = some t ∧ g t = some r := by
  cases o with
  | none => cases h
  | some t => exact ⟨t, rfl, h⟩
theorem some_inj {α : Type} {a b : α} (h : some a = some b) : a = b := Option.some.inj h
/-- Behind a loop: back at once, or on. -/
def orOn {ρ β γ : Type} (ret : ρ → Option γ) (g : β → Option γ) : ρ ⊕ β → Option γ
  | .inl r => ret r
  | .inr b => g b
theorem orOn_l {ρ β γ : Type} {ret : ρ → Option γ} {g : β → Option γ} {a : ρ} {r : γ} (h : orOn ret g (.inl a) = some r) : ret a = some r := h
theorem orOn_r {ρ β γ : Type} {ret : ρ → Option γ} {g : β → Option γ} {b : β} {r : γ} (h : orOn ret g (.inr b) = some r) : g b = some r := h
theorem getL (p : Nat) {cs ds : List Value} {j : Nat} {v : Value} (h : ds[j]? = some v) (hp : p ≤ cs.length) (e : (cs.drop p).take ds.length = ds) : cs[p + j]? = some v := by
  have hlt := (List.getElem?_eq_some_iff.1 h).1
  rw [← e, List.getElem?_take_of_lt (by omega), List.getElem?_drop] at h
  exact h
def idx {α : Type} (xs : List α) (i : Int) : Option α := if 0 ≤ i then xs[i.toNat]? else none
theorem idx_spec {α : Type} {xs : List α} {i : Int} {x : α} (h : idx xs i = some x) : 0 ≤ i ∧ i < xs.length ∧ xs[i.toNat]? = some x := by
  unfold idx at h
  by_cases h0 : 0 ≤ i
  · rw [if_pos h0] at h
    have := (List.getElem?_eq_some_iff.1 h).1
    exact ⟨h0, by omega, h⟩
  · rw [if_neg h0] at h; cases h
/-- x ++ y of a slice whose elements take so many bytes. -/
def apd {α : Type} (bytes : Nat) (xs ys : List α) : Option (List α) := if (xs.length + ys.length) * bytes ≤ 140737488355328 ∧ xs.length + ys.length ≤ 140737488355328 then some (xs ++ ys) else none
theorem apd_spec {α : Type} {bytes : Nat} {xs ys zs : List α} (h : apd bytes xs ys = some zs) : zs = xs ++ ys ∧ (xs.length + ys.length) * bytes ≤ 140737488355328 ∧ xs.length + ys.length ≤ 140737488355328 := by
  unfold apd at h
  split at h
  · rename_i hc; exact ⟨(Option.some.inj h).symm, hc⟩
  · cases h
def cat (a b : ByteArray) : Option ByteArray := if a.size + b.size ≤ 9223372036854775807 then some (a ++ b) else none
theorem cat_spec {a b c : ByteArray} (h : cat a b = some c) : c = a ++ b ∧ a.size + b.size ≤ 9223372036854775807 := by
  unfold cat at h
  split at h
  · rename_i hc; exact ⟨(Option.some.inj h).symm, hc⟩
  · cases h
def bytesOf (ns : List Int) : ByteArray := ns.foldl (fun r n => r.push (UInt8.ofNat n.toNat)) ByteArray.empty
def slc {α : Type} (xs : List α) (i j : Int) : Option (List α) := if 0 ≤ i ∧ i ≤ j ∧ j ≤ xs.length then some ((xs.drop i.toNat).take (j.toNat - i.toNat)) else none
theorem slc_spec {α : Type} {xs ys : List α} {i j : Int} (h : slc xs i j = some ys) : ys = (xs.drop i.toNat).take (j.toNat - i.toNat) ∧ 0 ≤ i ∧ i ≤ j ∧ j ≤ xs.length := by
  unfold slc at h
  split at h
  · rename_i hc; exact ⟨(Option.some.inj h).symm, hc⟩
  · cases h

/-! ### what lies in memory that stays -/
abbrev Rep (α : Type) := Mem → α → List Value → Prop
class RepM {α : Type} (rep : Rep α) : Prop where
  mono : ∀ {M M' : Mem}, (∀ a u, M a = some u → M' a = some u) → ∀ x cs, rep M x cs → rep M' x cs
  one : ∀ {M : Mem} {x : α} {cs : List Value}, rep M x cs → ∀ v ∈ cs, v.oneCell' = true
/-- What is one cell each, of the elements' own. -/
class OneE {α : Type} (enc : α → List Value) : Prop where
  one : ∀ x, ∀ v ∈ enc x, v.oneCell' = true
def fl {α : Type} (enc : α → List Value) : Rep α := fun _ x cs => cs = enc x
instance {α : Type} (enc : α → List Value) [h : OneE enc] : RepM (fl enc) := ⟨fun _ _ _ h => h, fun {_ x cs} hx => by rw [show cs = enc x from hx]; exact h.one x⟩
def chK (k : IntKind) (x : Int) : List Value := [.int k x]
def chB (x : Bool) : List Value := [.bool x]
instance (k : IntKind) : OneE (chK k) := ⟨fun x v hv => by rcases List.mem_singleton.1 hv with rfl; rfl⟩
instance : OneE chB := ⟨fun x v hv => by rcases List.mem_singleton.1 hv with rfl; rfl⟩
/-- A slice of xs: so many places of room. -/
def SlF {α : Type} (rep : Rep α) (sz : Nat) (M : Mem) (A : Option Addr) (xs : List α) (c : Nat) : Prop := xs.length ≤ c ∧ Row (rep M) sz M A xs
theorem SlF.le {α : Type} {rep : Rep α} [hm : RepM rep] {sz : Nat} {M M' : Mem} {A : Option Addr} {xs : List α} {c : Nat} (h : SlF rep sz M A xs c) (hle : ∀ a u, M a = some u → M' a = some u) : SlF rep sz M' A xs c :=
  ⟨h.1, h.2.mono hle (hm.mono hle)⟩
theorem SlF.nil {α : Type} {rep : Rep α} {sz : Nat} {M : Mem} {c : Nat} : SlF rep sz M none [] c := ⟨Nat.zero_le _, Row.nil⟩
theorem SlF.at {α : Type} {rep : Rep α} {sz : Nat} {M : Mem} {A : Option Addr} {xs : List α} {c : Nat} (h : SlF rep sz M A xs c) {i : Int} {x : α} (hx : idx xs i = some x) :
    ∃ b o cs, A = some ⟨b, o, none⟩ ∧ rep M x cs ∧ ∀ j v, cs[j]? = some v → M ⟨b, o + i.toNat * sz + j, none⟩ = some v := by
  obtain ⟨b, o, cs, h1, h2, h3, h4⟩ := h.2.at (idx_spec hx).2.2
  exact ⟨b, o, cs, h1, h2, h4⟩
theorem SlF.slice {α : Type} {rep : Rep α} {sz : Nat} {M : Mem} {A : Option Addr} {xs ys : List α} {c : Nat} (h : SlF rep sz M A xs c) {i j : Int} (hs : slc xs i j = some ys) :
    ∃ A' c', sliced A i.toNat j.toNat c sz = .slice A' ys.length c' ∧ SlF rep sz M A' ys c' := by
  obtain ⟨rfl, h0, h1, h2⟩ := slc_spec hs
  have hl : ((xs.drop i.toNat).take (j.toNat - i.toNat)).length = j.toNat - i.toNat := by rw [List.length_take, List.length_drop]; omega
  have hc := h.1
  have key : ∀ A', (A' = none ∧ A = none ∨ ∃ b o, A = some ⟨b, o, none⟩ ∧ A' = some ⟨b, o + i.toNat * sz, none⟩) → SlF rep sz M A' ((xs.drop i.toNat).take (j.toNat - i.toNat)) (c - i.toNat) := by
    intro A' hA'
    refine ⟨by rw [hl]; omega, ?_⟩
    rcases h.2 with ⟨hA, hx⟩ | ⟨b, o, hA, hr⟩
    · rcases hA' with ⟨rfl, _⟩ | ⟨b, o, hA2, _⟩
      · refine .inl ⟨rfl, by rw [hx]; simp⟩
      · rw [hA] at hA2; cases hA2
    · rcases hA' with ⟨_, hA2⟩ | ⟨b', o', hA2, rfl⟩
      · rw [hA] at hA2; cases hA2
      rw [hA] at hA2; injection hA2 with hA2; injection hA2 with e1 e2; subst e1; subst e2
      refine .inr ⟨b, o + i.toNat * sz, rfl, fun k x hk => ?_⟩
      have hlt := (List.getElem?_eq_some_iff.1 hk).1
      rw [hl] at hlt
      rw [List.getElem?_take_of_lt (by omega), List.getElem?_drop] at hk
      obtain ⟨cs, h1, h2, h3⟩ := hr _ x hk
      refine ⟨cs, h1, h2, fun q v hq => ?_⟩
      have := h3 q v hq
      rw [Nat.add_mul] at this
      rw [show o + i.toNat * sz + k * sz + q = o + (i.toNat * sz + k * sz) + q by omega]
      exact this
  rw [hl]
  unfold sliced
  by_cases e : c = i.toNat
  · rw [if_pos e]
    refine ⟨_, _, rfl, by rw [hl]; omega, ?_⟩
    have hnil : (xs.drop i.toNat).take (j.toNat - i.toNat) = [] := by rw [show j.toNat - i.toNat = 0 by omega]; rfl
    rw [hnil]
    rcases h.2 with ⟨hA, _⟩ | ⟨b, o, hA, _⟩
    · exact .inl ⟨hA, rfl⟩
    · exact .inr ⟨b, o, hA, fun k x hk => by simp at hk⟩
  · rw [if_neg e]
    refine ⟨_, _, rfl, key _ ?_⟩
    rcases h.2 with ⟨hA, _⟩ | ⟨b, o, hA, _⟩
    · exact .inl ⟨by rw [hA]; rfl, hA⟩
    · exact .inr ⟨b, o, hA, by rw [hA]; simp only [Option.map_some, add_off]⟩

/-! the same, where nobody knows what an empty slice's address is -/
def SlW {α : Type} (rep : Rep α) (sz : Nat) (M : Mem) (A : Option Addr) (xs : List α) (c : Nat) : Prop := xs.length ≤ c ∧ (xs = [] ∨ ∃ b o, A = some ⟨b, o, none⟩ ∧ ∀ i x, xs[i]? = some x → ∃ cs, rep M x cs ∧ cs.length = sz ∧ ∀ j v, cs[j]? = some v → M ⟨b, o + i * sz + j, none⟩ = some v)
theorem SlF.w {α : Type} {rep : Rep α} {sz : Nat} {M : Mem} {A : Option Addr} {xs : List α} {c : Nat} (h : SlF rep sz M A xs c) : SlW rep sz M A xs c :=
  ⟨h.1, h.2.elim (fun h => .inl h.2) .inr⟩
theorem SlW.f {α : Type} {rep : Rep α} {sz : Nat} {M : Mem} {A : Option Addr} {xs : List α} {c : Nat} (h : SlW rep sz M A xs c) (hA : ∀ a, A = some a → a.spot = none) : SlF rep sz M A xs c := by
  refine ⟨h.1, ?_⟩
  rcases h.2 with hx | h
  · cases A with
    | none => exact .inl ⟨rfl, hx⟩
    | some a =>
      obtain ⟨b, o, sp⟩ := a
      have : sp = none := hA _ rfl
      subst this
      exact .inr ⟨b, o, rfl, fun i x hi => by rw [hx] at hi; simp at hi⟩
  · exact .inr h
theorem SlW.le {α : Type} {rep : Rep α} [hm : RepM rep] {sz : Nat} {M M' : Mem} {A : Option Addr} {xs : List α} {c : Nat} (h : SlW rep sz M A xs c) (hle : ∀ a u, M a = some u → M' a = some u) : SlW rep sz M' A xs c := by
  refine ⟨h.1, h.2.imp id ?_⟩
  rintro ⟨b, o, hA, hr⟩
  refine ⟨b, o, hA, fun i x hx => ?_⟩
  obtain ⟨cs, h1, h2, h3⟩ := hr i x hx
  exact ⟨cs, hm.mono hle _ _ h1, h2, fun j v hj => hle _ _ (h3 j v hj)⟩
theorem SlW.nil {α : Type} {rep : Rep α} {sz : Nat} {M : Mem} {c : Nat} : SlW rep sz M none [] c := SlF.nil.w
theorem SlW.at {α : Type} {rep : Rep α} {sz : Nat} {M : Mem} {A : Option Addr} {xs : List α} {c : Nat} (h : SlW rep sz M A xs c) {i : Int} {x : α} (hx : idx xs i = some x) :
    ∃ b o cs, A = some ⟨b, o, none⟩ ∧ rep M x cs ∧ ∀ j v, cs[j]? = some v → M ⟨b, o + i.toNat * sz + j, none⟩ = some v := by
  rcases h.2 with h' | ⟨b, o, hA, hr⟩
  · have := (idx_spec hx).2.2; rw [h'] at this; simp at this
  · obtain ⟨cs, h1, h2, h3⟩ := hr _ x (idx_spec hx).2.2
    exact ⟨b, o, cs, hA, h1, h3⟩
theorem SlW.slice {α : Type} {rep : Rep α} {sz : Nat} {M : Mem} {A : Option Addr} {xs ys : List α} {c : Nat} (h : SlW rep sz M A xs c) {i j : Int} (hs : slc xs i j = some ys) :
    ∃ A' c', sliced A i.toNat j.toNat c sz = .slice A' ys.length c' ∧ SlW rep sz M A' ys c' := by
  rcases h.2 with hx | hr
  · obtain ⟨rfl, h0, h1, h2⟩ := slc_spec hs
    have hl : xs.length = 0 := by rw [hx]; rfl
    have e : (xs.drop i.toNat).take (j.toNat - i.toNat) = [] := by rw [hx]; simp
    refine ⟨(if c = i.toNat then A else A.map (·.add (i.toNat * sz))), c - i.toNat, ?_, by rw [e]; exact Nat.zero_le _, .inl e⟩
    unfold sliced; rw [e, show j.toNat - i.toNat = 0 by omega]; rfl
  · obtain ⟨A', c', h1, h2⟩ := SlF.slice (rep := rep) (sz := sz) (M := M) (A := A) (xs := xs) (c := c) ⟨h.1, .inr hr⟩ hs
    exact ⟨A', c', h1, h2.w⟩
theorem Cells.nil' {α : Type} {rep : α → List Value → Prop} {sz : Nat} : Cells rep sz ([] : List α) [] := rfl
theorem Cells.cons {α : Type} {rep : α → List Value → Prop} {sz : Nat} {x : α} {c : List Value} (h : rep x c) (hl : c.length = sz) {xs : List α} {cs : List Value} (hs : Cells rep sz xs cs) : Cells rep sz (x :: xs) (c ++ cs) := ⟨c, cs, rfl, h, hl, hs⟩
theorem Cells.append {α : Type} {rep : α → List Value → Prop} {sz : Nat} : ∀ {xs ys : List α} {cs ds : List Value}, Cells rep sz xs cs → Cells rep sz ys ds → Cells rep sz (xs ++ ys) (cs ++ ds)
  | [], ys, cs, ds, h, h' => by rw [show cs = [] from h]; exact h'
  | x :: xs, ys, cs, ds, ⟨c, r, e, h1, h2, h3⟩, h' => ⟨c, r ++ ds, by rw [e, List.append_assoc], h1, h2, Cells.append h3 h'⟩
theorem Cells.all {α : Type} {rep : α → List Value → Prop} {sz : Nat} {p : Value → Prop} (hp : ∀ x cs, rep x cs → ∀ v ∈ cs, p v) : ∀ {xs : List α} {cs : List Value}, Cells rep sz xs cs → ∀ v ∈ cs, p v
  | [], cs, h, v, hv => by rw [show cs = [] from h] at hv; cases hv
  | x :: xs, cs, ⟨c, r, e, h1, h2, h3⟩, v, hv => by
    rw [e] at hv
    rcases List.mem_append.1 hv with hv | hv
    · exact hp x c h1 v hv
    · exact Cells.all hp h3 v hv
/-- A literal that was just made known. -/
theorem SlF.lit {α : Type} {rep : Rep α} {sz : Nat} {M : Mem} {b n : Nat} {xs : List α} {cs : List Value} (hc : Cells (rep M) sz xs cs) (hn : xs.length = n) (hm : ∀ j u, cs[j]? = some u → M ⟨b, j, none⟩ = some u) : SlF rep sz M (some ⟨b, 0, none⟩) xs n :=
  ⟨Nat.le_of_eq hn, row_pub hc rfl (.inr ⟨b, rfl, hm⟩)⟩
theorem SlW.lit {α : Type} {rep : Rep α} {sz : Nat} {M : Mem} {b n : Nat} {xs : List α} {cs : List Value} (hc : Cells (rep M) sz xs cs) (hn : xs.length = n) (hm : ∀ j u, cs[j]? = some u → M ⟨b, j, none⟩ = some u) : SlW rep sz M (some ⟨b, 0, none⟩) xs n := (SlF.lit hc hn hm).w
/-- The cells of what lies there. -/
theorem rowCells {α : Type} {rep : α → List Value → Prop} {sz : Nat} {M : Mem} {b : Nat} : ∀ (xs : List α) (o : Nat), (∀ i x, xs[i]? = some x → ∃ cs, rep x cs ∧ cs.length = sz ∧ ∀ j v, cs[j]? = some v → M ⟨b, o + i * sz + j, none⟩ = some v) →
    ∃ cs, Cells rep sz xs cs ∧ ∀ j v, cs[j]? = some v → M ⟨b, o + j, none⟩ = some v
  | [], o, _ => ⟨[], rfl, fun j v h => by simp at h⟩
  | x :: xs, o, h => by
    obtain ⟨c, h1, h2, h3⟩ := h 0 x rfl
    obtain ⟨cs, g1, g2⟩ := rowCells xs (o + sz) (fun i y hy => by
      obtain ⟨c, h1, h2, h3⟩ := h (i + 1) y (by simpa using hy)
      refine ⟨c, h1, h2, fun j v hj => ?_⟩
      have := h3 j v hj
      rw [Nat.succ_mul] at this
      rw [show o + sz + i * sz + j = o + (i * sz + sz) + j by omega]; exact this)
    refine ⟨c ++ cs, ⟨c, cs, rfl, h1, h2, g1⟩, fun j v hj => ?_⟩
    by_cases hlt : j < c.length
    · rw [List.getElem?_append_left hlt] at hj
      have := h3 j v hj
      rw [Nat.zero_mul, Nat.add_zero] at this; exact this
    · rw [List.getElem?_append_right (by omega)] at hj
      have := g2 _ v hj
      rw [h2] at this hlt
      rw [show o + sz + (j - sz) = o + j by omega] at this; exact this
theorem row_apd {α : Type} {rep : α → List Value → Prop} {sz bytes : Nat} {xs ys zs : List α} {cs d : List Value} {n : Nat} (hx : apd bytes xs ys = some zs) (hc : Cells rep sz xs cs) (hn : n = xs.length) (hd : Cells rep sz ys d) :
    Cells rep sz zs (cs ++ d) ∧ n + ys.length = zs.length ∧ (n + ys.length) * bytes ≤ 140737488355328 ∧ n + ys.length ≤ 140737488355328 := by
  obtain ⟨rfl, h1, h2⟩ := apd_spec hx
  subst hn
  exact ⟨Cells.append hc hd, by simp, h1, h2⟩
theorem run_append_none {P : Program} {w : World} (base : Nat) (t ty e : TypeId) (i : TypeInfo) (size c : Nat) (A : Option Addr) (ht : P.underlying t = some (.slice e)) (hi : P.info? e = some i)
    (v : Value) (n : Nat) (xs : List Value) (hown : w.ownsRow base e size v n xs) :
    (Builtin.append_ #[t, t] ty #[v, .slice A 0 c]).run P w = .ok v w := by
  cases A <;> rcases hown.2 with ⟨rfl, rfl⟩ | ⟨g, cap, cur, rfl, _, _, hnc, _⟩
  · simp [Builtin.append_, run_underlying ht, sizeOf, typeInfo, hi, Builtin.lenOf, Builtin.firstCells]
  · simp [Builtin.append_, run_underlying ht, sizeOf, typeInfo, hi, Builtin.lenOf, Builtin.firstCells, hnc, storeCells]
  · simp [Builtin.append_, run_underlying ht, sizeOf, typeInfo, hi, Builtin.lenOf, Builtin.firstCells, loadCells, loadCellsFrom]
  · simp [Builtin.append_, run_underlying ht, sizeOf, typeInfo, hi, Builtin.lenOf, Builtin.firstCells, hnc, storeCells, loadCells, loadCellsFrom]
theorem setR_self {r : Nat} {x : RowI} : ∀ {R : List (Nat × RowI)}, lk R r = some x → setR R r x = R := by
  intro R
  induction R with
  | nil => intro h; cases h
  | cons p R ih =>
    obtain ⟨i, y⟩ := p
    intro h
    simp only [lk] at h
    simp only [setR]
    cases hb : Nat.beq i r with
    | true =>
      rw [hb] at h
      simp only [cond_true, Option.some.injEq] at h
      subst h; simp
    | false =>
      rw [hb] at h
      simp only [cond_false] at h ⊢
      rw [ih h]

section rules
variable {P : Program} {cx : Cx} {M M0 Mk : Mem} {s : SS} {l : List Oper} {k : Nat} {Q : Exit → Act → World → Prop} {X : Act → World → Prop} {L0 : List (Nat × SO)} {ex : List Nat} {fuel : Nat} {listed : List Bool}

theorem y_indexA {dst : Option Tmp} {A : Option Addr} {b o len : Nat} {kk : IntKind} {ii : Int} {sz : Nat} (h : indexS P cx.n l k s = some (dst, A, len, kk, ii, sz)) (hA : A = some ⟨b, o, none⟩) {α : Type} {xs : List α} {x : α} (hl : xs.length = len) (hx : idx xs ii = some x) :
    Yld P cx M Mk s l k dst (.pointer (some ⟨b, o + ii.toNat * sz, none⟩)) := by
  subst hA; subst hl
  exact y_index h (idx_spec hx).1 (idx_spec hx).2.1
theorem y_sliceA {dst : Option Tmp} {A : Option Addr} {len cap sz : Nat} {lo hi : Option Int} (i j : Int) {v' : Value} (h : sliceS P cx.n l k s = some (dst, A, len, cap, sz, lo, hi)) (hlo : lo = some i ∨ lo = none ∧ i = 0) (hhi : hi = some j ∨ hi = none ∧ j = len)
    {α : Type} {xs ys : List α} (hl : xs.length = len) (hc : len ≤ cap) (hs : slc xs i j = some ys) (hv : sliced A i.toNat j.toNat cap sz = v') : Yld P cx M Mk s l k dst v' := by
  subst hv
  obtain ⟨_, h0, h1, h2⟩ := slc_spec hs
  refine y_slice h i.toNat j.toNat ?_ ?_ (by omega) (by omega) (fun _ => hc)
  · rcases hlo with h | ⟨h, e⟩
    · exact .inl (by rw [h]; congr 1; omega)
    · exact .inr ⟨h, by omega⟩
  · rcases hhi with h | ⟨h, e⟩
    · exact .inl (by rw [h]; congr 1; omega)
    · exact .inr ⟨h, by omega⟩

/-- string(bs), bs lying in memory that stays. -/
def convS (P : Program) (n : Nat) (l : List Oper) (k : Nat) (s : SS) : Option (Option Tmp × Option Addr × Nat × Nat) :=
  match l[k]? with
  | some o => match guardS l s o.guard, o.op with
    | some true, .convert t t' x => match vl s x, P.underlying t, P.underlying t' with
      | some (.slice A len cap), some (.slice e), some .string => match P.underlying e with
        | some (.int .u8) => bif okD n o.dst then some (o.dst, A, len, cap) else none
        | _ => none
      | _, _, _ => none
    | _, _ => none
  | none => none
theorem y_bstr {dst : Option Tmp} {A : Option Addr} {cap c : Nat} {xs : List Int} (h : convS P cx.n l k s = some (dst, A, xs.length, cap)) (hA : SlW (fl (chK .u8)) 1 Mk A xs c) : Yld P cx M Mk s l k dst (.string (bytesOf xs)) := by
  unfold convS at h
  cases ho : l[k]? with
  | none => rw [ho] at h; cases h
  | some oo =>
    rw [ho] at h
    simp only at h
    cases hg : guardS l s oo.guard with
    | none => rw [hg] at h; cases h
    | some c =>
      cases c with
      | false => rw [hg] at h; cases h
      | true =>
        rw [hg] at h
        obtain ⟨od, op, ty, pos, af, gd⟩ := oo
        cases op <;> first | (cases h; done) | skip
        rename_i t t' x
        simp only at h
        cases hx : vl s x with
        | none => rw [hx] at h; cases h
        | some xv =>
        cases hu : P.underlying t with
        | none => rw [hx, hu] at h; cases xv <;> cases h
        | some d =>
        cases hu' : P.underlying t' with
        | none => rw [hx, hu, hu'] at h; cases xv <;> cases d <;> cases h
        | some d' =>
        rw [hx, hu, hu'] at h
        cases xv <;> first | (cases h; done) | skip
        cases d <;> first | (cases h; done) | skip
        cases d' <;> first | (cases h; done) | skip
        rename_i A' len' cap' e
        simp only at h
        cases he : P.underlying e with
        | none => rw [he] at h; cases h
        | some de =>
        rw [he] at h
        cases de <;> first | (cases h; done) | skip
        rename_i kk
        cases kk <;> first | (cases h; done) | skip
        cases hd : okD cx.n od with
        | false => rw [hd] at h; cases h
        | true =>
        rw [hd] at h
        simp only [cond_true, Option.some.injEq, Prod.mk.injEq] at h
        obtain ⟨rfl, rfl, rfl, rfl⟩ := h
        refine yld_of ho hg hd _ (fun a w ha w' hw => ?_)
        simp only [execOp, ha.evalv hx, Sem.run_bind, run_convert_bytes_string w' t t' e _ _ _ hu he hu']
        rcases hA.2 with rfl | ⟨b, o, rfl, hr⟩
        · cases A' with
          | none => simp only [Conv.bytesToString, Sem.run_pure, Result.andThen_ok, bytesOf, List.foldl_nil]
          | some a =>
            rw [show ([] : List Int).length = 0 from rfl, run_bytesToString w' a 0 _ [] (by simp [loadCells, loadCellsFrom])]
            simp only [Result.andThen_ok, Sem.run_pure, bytesOf]
        · have hl := run_loadCells_list (P := P) w' ⟨b, o, none⟩ (xs.map (Value.int .u8)) (fun j v hj => by
            rw [List.getElem?_map] at hj
            cases hxj : xs[j]? with
            | none => rw [hxj] at hj; cases hj
            | some x =>
              rw [hxj] at hj
              obtain ⟨cs, h1, h2, h3⟩ := hr j x hxj
              rw [show cs = chK .u8 x from h1] at h3
              have := h3 0 _ rfl
              rw [Nat.mul_one, Nat.add_zero] at this
              injection hj with hj
              rw [add_off, ← hj]
              exact hw _ _ this)
          rw [List.length_map] at hl
          rw [run_bytesToString w' ⟨b, o, none⟩ xs.length _ xs hl]
          simp only [Result.andThen_ok, Sem.run_pure, bytesOf]
theorem y_catA {dst : Option Tmp} {a b c : ByteArray} (h : catS P cx.n l k s = some (dst, a, b)) (hs : cat a b = some c) : Yld P cx M Mk s l k dst (.string c) := by
  obtain ⟨rfl, h1⟩ := cat_spec hs
  exact y_cat h h1
theorem g_step (s' : Nat → SS) {used : Bool} {o : Oper} (ho : l[k]? = some o) (hg : guardS l s o.guard = some true) (h : ∀ b, opM P cx.n b s o.dst o.op = some (s' b, used)) (K : ∀ b, J cx M (s' b) (wpList P l.toArray Q (l.drop (k + 1)))) : J cx M s (wpList P l.toArray Q (l.drop k)) :=
  g_op (o_step s' ho hg h K)
theorem g_pubS (r : Nat) {v : Value} {e sz n : Nat} {cs : List Value} (h : lk s.R r = some ⟨v, e, sz, n, cs⟩) {α : Type} {rep : Rep α} [hm : RepM rep] {xs : List α} (hc : Cells (rep M) sz xs cs) (hn : n = xs.length)
    (K : ∀ M' A c, (∀ a u, M a = some u → M' a = some u) → v = .slice A xs.length c → SlF rep sz M' A xs c → J cx M' ⟨s.S, s.L, keepIn ((s.R.map (·.1)).filter (fun i => !Nat.beq i r)) s.R, s.nx⟩ X) : J cx M s X := by
  subst hn
  refine g_pub r h fun M' A c hle hv hl _ hA => K M' A c hle hv ⟨hl, row_pub (Cells.mono (hm.mono hle) hc) rfl hA⟩
theorem o_appendN {dst : Option Tmp} (r cap0 : Nat) (A0 : Option Addr) {u : Value} {row : RowI} {bytes : Nat} (h : appM P cx.n l k s r = some (dst, u, .slice A0 0 cap0, row, bytes)) (hu : u = row.v)
    (K : lk s.R r = some row → J cx M ⟨putS dst (.v row.v) s.S, s.L, s.R, s.nx⟩ X) : OpJ P cx M s l Q k X := by
  subst hu
  unfold appM at h
  cases ho : l[k]? with
  | none => rw [ho] at h; cases h
  | some oo =>
    rw [ho] at h
    simp only at h
    cases hg : guardS l s oo.guard with
    | none => rw [hg] at h; cases h
    | some c =>
      cases c with
      | false => rw [hg] at h; cases h
      | true =>
        rw [hg] at h
        obtain ⟨od, op, ty, pos, af, gd⟩ := oo
        cases op <;> first | (cases h; done) | skip
        rename_i c
        obtain ⟨callee, cargs, cts⟩ := c
        cases callee <;> first | (cases h; done) | skip
        rename_i bi
        cases bi <;> first | (cases h; done) | skip
        simp only at h
        cases cargs with | mk cargs =>
        cases cts with | mk cts =>
        rcases cargs with _ | ⟨x, _ | ⟨y, _ | ⟨_, _⟩⟩⟩ <;> first | (cases h; done) | skip
        rcases cts with _ | ⟨t, _ | ⟨t', _ | ⟨_, _⟩⟩⟩ <;> first | (cases h; done) | skip
        simp only at h
        cases hx : vl s x with
        | none => rw [hx] at h; cases h
        | some xv =>
        cases hy : vl s y with
        | none => rw [hx, hy] at h; cases h
        | some yv =>
        cases hr : lk s.R r with
        | none => rw [hx, hy, hr] at h; cases h
        | some row' =>
        rw [hx, hy, hr] at h
        simp only at h
        cases hu : P.underlying t with
        | none => rw [hu] at h; cases h
        | some d =>
        rw [hu] at h
        cases d <;> first | (cases h; done) | skip
        rename_i e
        simp only at h
        cases hin : P.info? e with
        | none => rw [hin] at h; cases h
        | some inf =>
        rw [hin] at h
        simp only at h
        cases hz : inf.zero with
        | none => rw [hz] at h; cases h
        | some z =>
        rw [hz] at h
        simp only at h
        cases hc : (okD cx.n od && Nat.beq t t' && Nat.beq row'.e e && Nat.beq row'.sz inf.size && Nat.blt 0 inf.size && Nat.beq z.cells.toList.length inf.size) with
        | false => rw [hc] at h; cases h
        | true =>
        rw [hc] at h
        simp only [cond_true, Option.some.injEq, Prod.mk.injEq] at h
        obtain ⟨rfl, rfl, rfl, rfl, rfl⟩ := h
        simp only [Bool.and_eq_true] at hc
        obtain ⟨⟨⟨⟨⟨hd, ht⟩, he⟩, hsz⟩, hpos⟩, hzs⟩ := hc
        have ht := Nat.eq_of_beq_eq_true ht
        have he := Nat.eq_of_beq_eq_true he
        subst ht
        subst he
        intro a w ha
        have hrow := ha.st.row _ (lk_mem hr)
        have hrun := run_append_none (P := P) 0 t ty row'.e inf row'.sz cap0 A0 hu hin row'.v row'.n row'.cs hrow
        refine ⟨_, ho, guardS_wanted ha hg, ?_⟩
        unfold Oper.wp execOp
        simp only [resolve, invoke, builtin, Sem.run_bind, Sem.run_pure, Result.andThen_ok, List.map_toArray, List.map_cons, List.map_nil, ha.evalv hx, ha.evalv hy, hrun]
        exact K hr _ _ (ha.put od (.v row'.v) hd (fun _ _ _ e => by cases e) (fun i so hi => ⟨so, hi, rfl⟩) ha.ids ha.st)
/-- append(row, ys..), ys lying in memory that stays. -/
theorem o_appendW {dst : Option Tmp} (r : Nat) {u : Value} {row : RowI} {A : Option Addr} {c bytes : Nat} {α : Type} {ys zs xs : List α} (h : appM P cx.n l k s r = some (dst, u, .slice A ys.length c, row, bytes)) (hu : u = row.v) {rep : Rep α} [hm : RepM rep]
    (hy : SlW rep row.sz M A ys c) (hc : Cells (rep M) row.sz xs row.cs) (hn : row.n = xs.length) (hz : apd bytes xs ys = some zs)
    (K : ∀ v' d, Cells (rep M) row.sz zs (row.cs ++ d) → row.n + ys.length = zs.length → J cx M ⟨putS dst (.v v') s.S, s.L, setR s.R r ⟨v', row.e, row.sz, row.n + ys.length, row.cs ++ d⟩, s.nx⟩ X) : OpJ P cx M s l Q k X := by
  obtain ⟨rfl, h1, h2⟩ := apd_spec hz
  have hl : row.n + ys.length = (xs ++ ys).length := by rw [hn]; simp
  rcases hy.2 with rfl | ⟨b, o, rfl, hr⟩
  · refine o_appendN r c A h hu fun hr => ?_
    have := K row.v [] (by simpa using hc) hl
    simp only [List.length_nil, Nat.add_zero, List.append_nil] at this
    rw [show (⟨row.v, row.e, row.sz, row.n, row.cs⟩ : RowI) = row from rfl, setR_self hr] at this
    exact this
  · obtain ⟨cs, g1, g2⟩ := rowCells ys o hr
    refine o_appendM r ys.length c cs h hu (Cells.length g1) M (fun w hw => hw.sat) g2 (Cells.all (fun x cs hx => hm.one hx) g1) (by rw [hn]; exact h1) (by rw [hn]; exact h2) fun v' _ => ?_
    exact K v' cs (Cells.append hc g1) hl
theorem g_appendW {dst : Option Tmp} (r : Nat) {u : Value} {row : RowI} {A : Option Addr} {c bytes : Nat} {α : Type} {ys zs xs : List α} (h : appM P cx.n l k s r = some (dst, u, .slice A ys.length c, row, bytes)) (hu : u = row.v) {rep : Rep α} [hm : RepM rep]
    (hy : SlW rep row.sz M A ys c) (hc : Cells (rep M) row.sz xs row.cs) (hn : row.n = xs.length) (hz : apd bytes xs ys = some zs)
    (K : ∀ v' d, Cells (rep M) row.sz zs (row.cs ++ d) → row.n + ys.length = zs.length → J cx M ⟨putS dst (.v v') s.S, s.L, setR s.R r ⟨v', row.e, row.sz, row.n + ys.length, row.cs ++ d⟩, s.nx⟩ (wpList P l.toArray Q (l.drop (k + 1)))) : J cx M s (wpList P l.toArray Q (l.drop k)) := g_op (o_appendW r h hu hy hc hn hz K)
theorem o_appendS {dst : Option Tmp} (r : Nat) {u : Value} {row : RowI} {A : Option Addr} {c bytes : Nat} {α : Type} {ys zs xs : List α} (h : appM P cx.n l k s r = some (dst, u, .slice A ys.length c, row, bytes)) (hu : u = row.v) {rep : Rep α} [hm : RepM rep]
    (hy : SlF rep row.sz M A ys c) (hc : Cells (rep M) row.sz xs row.cs) (hn : row.n = xs.length) (hz : apd bytes xs ys = some zs)
    (K : ∀ v' d, Cells (rep M) row.sz zs (row.cs ++ d) → row.n + ys.length = zs.length → J cx M ⟨putS dst (.v v') s.S, s.L, setR s.R r ⟨v', row.e, row.sz, row.n + ys.length, row.cs ++ d⟩, s.nx⟩ X) : OpJ P cx M s l Q k X := o_appendW r h hu hy.w hc hn hz K
theorem g_appendS {dst : Option Tmp} (r : Nat) {u : Value} {row : RowI} {A : Option Addr} {c bytes : Nat} {α : Type} {ys zs xs : List α} (h : appM P cx.n l k s r = some (dst, u, .slice A ys.length c, row, bytes)) (hu : u = row.v) {rep : Rep α} [hm : RepM rep]
    (hy : SlF rep row.sz M A ys c) (hc : Cells (rep M) row.sz xs row.cs) (hn : row.n = xs.length) (hz : apd bytes xs ys = some zs)
    (K : ∀ v' d, Cells (rep M) row.sz zs (row.cs ++ d) → row.n + ys.length = zs.length → J cx M ⟨putS dst (.v v') s.S, s.L, setR s.R r ⟨v', row.e, row.sz, row.n + ys.length, row.cs ++ d⟩, s.nx⟩ (wpList P l.toArray Q (l.drop (k + 1)))) : J cx M s (wpList P l.toArray Q (l.drop k)) := g_op (o_appendS r h hu hy hc hn hz K)

/-! ### ways that meet -/
def QJ (cx : Cx) (I : Mem → SS → Prop) (Q : Exit → Act → World → Prop) : Exit → Act → World → Prop
  | .normal => fun a w => ∃ M s, I M s ∧ Holds cx M s a w
  | e => Q e
theorem g_blockJ {id : Nat} {c : Code} (I : Mem → SS → Prop) (hB : J cx M s (c.wp P (Exit.inBlock id (QJ cx I Q)))) (hK : ∀ M s, I M s → J cx M s (Q .normal)) : J cx M s ((Code.block id c).wp P Q) := by
  refine g_block (fun a w ha => ?_)
  refine wp_mono (hB a w ha) fun e a' w' q => ?_
  cases e with
  | normal =>
    obtain ⟨M', s', hi, hh⟩ := q
    exact hK M' s' hi a' w' hh
  | exit id' =>
    unfold Exit.inBlock at q ⊢
    by_cases e : id' = id
    · subst e
      simp only [if_true] at q ⊢
      obtain ⟨M', s', hi, hh⟩ := q
      exact hK M' s' hi a' w' hh
    · simp only [e, if_false] at q ⊢
      exact q
  | _ => exact q
theorem n_join {I : Mem → SS → Prop} (h : I M s) : J cx M s (QJ cx I Q .normal) := fun a w ha => ⟨M, s, h, ha⟩
theorem n_qj {I : Mem → SS → Prop} (K : J cx M s (Q .ret)) : J cx M s (QJ cx I Q .ret) := K
theorem n_qj_exit {I : Mem → SS → Prop} {id : Nat} (K : J cx M s (Q (.exit id))) : J cx M s (QJ cx I Q (.exit id)) := K

/-! ### regions that draw: two that may come up; what is known grows -/
def onlyIn (l : List Oper) (listed : List Bool) (ks : List Nat) : Bool := (List.range l.length).all (fun j => memN ks j == readyE l listed j) && ks.all (fun k => readyE l listed k)
theorem memN_mem : ∀ {ks : List Nat} {j : Nat}, memN ks j = true → j ∈ ks
  | i :: r, j, h => by
    simp only [memN] at h
    cases hb : Nat.beq i j with
    | true => rw [Nat.eq_of_beq_eq_true hb]; exact List.mem_cons_self
    | false => rw [hb] at h; exact List.mem_cons_of_mem _ (memN_mem h)
theorem readyE_of {i : Nat} (hi : i ∈ Region.ready .any l.toArray listed.toArray) : i < l.length ∧ readyE l listed i = true := by
  obtain ⟨h1, o, ho, hall⟩ := mem_ready.1 hi
  have ho' : l[i]? = some o := by simpa using ho
  refine ⟨(List.getElem?_eq_some_iff.1 ho').1, ?_⟩
  unfold readyE
  rw [ho']
  simp only [Bool.and_eq_true, Bool.not_eq_true']
  refine ⟨by simpa using h1, List.all_eq_true.2 fun e he => ?_⟩
  cases hb : Region.binds .any e with
  | false => rfl
  | true =>
    have := hall e (by simpa using he) hb
    simpa using this
theorem d_ops (k0 : Nat) (ks : List Nat) (hk : onlyIn l listed (k0 :: ks) = true) (h : ∀ k ∈ k0 :: ks, OpJ P cx M s l (NoPanic Q) k (fun a w => (k ∉ ex → Know M0 L0 w) ∧ XE P l (NoPanic Q) M0 L0 ex fuel (setB listed k) a w)) : J cx M s (XE P l (NoPanic Q) M0 L0 ex (fuel + 1) listed) := by
  intro a w ha
  simp only [onlyIn, Bool.and_eq_true] at hk
  refine ⟨fun h0 => ?_, fun i hi => ?_⟩
  · have := readyE_mem (List.all_eq_true.1 hk.2 k0 List.mem_cons_self)
    rw [h0] at this
    cases this
  · obtain ⟨hlt, hr⟩ := readyE_of hi
    have hm := List.all_eq_true.1 hk.1 i (List.mem_range.2 hlt)
    rw [hr] at hm
    simp only [beq_true] at hm
    obtain ⟨o, ho, hw, hwp⟩ := h i (memN_mem hm) a w ha
    unfold wpOp
    simp only [List.getElem?_toArray, ho, hw, if_true]
    left
    refine Oper.wp_mono (fun a' w' h' => ⟨h'.1, ?_⟩) hwp
    have := h'.2
    unfold XE at this
    rw [setB_eq] at this
    exact this
theorem dx_ops2 (i1 i2 : Nat) (l1 l2 : List Bool) (hk : onlyIn l listed [i1, i2] = true) (h1 : setB listed i1 = l1) (h2 : setB listed i2 = l2) (hf : fuel + 1 = k)
    (K1 : OpJ P cx M s l (NoPanic Q) i1 (fun a w => (i1 ∉ ex → Know M0 L0 w) ∧ XE P l (NoPanic Q) M0 L0 ex fuel l1 a w))
    (K2 : OpJ P cx M s l (NoPanic Q) i2 (fun a w => (i2 ∉ ex → Know M0 L0 w) ∧ XE P l (NoPanic Q) M0 L0 ex fuel l2 a w)) : J cx M s (XE P l (NoPanic Q) M0 L0 ex k listed) := by
  subst hf; subst h1; subst h2
  refine d_ops i1 [i2] hk fun k hk => ?_
  rcases List.mem_cons.1 hk with rfl | hk
  · exact K1
  · rcases List.mem_singleton.1 hk with rfl
    exact K2
theorem wpAnyE_mono {P : Program} {ops : Array Oper} {Q : Exit → Act → World → Prop} {S S' : World → Prop} (hS : ∀ w, S' w → S w) {ex : List Nat} : ∀ (fuel : Nat) (listed : Array Bool) (a : Act) (w : World), wpAnyE P ops Q S' ex fuel listed a w → wpAnyE P ops Q S ex fuel listed a w
  | 0, _, _, _, h => h
  | fuel + 1, _, _, _, h => ⟨h.1, fun i hi => wpOp_mono (fun a' w' h' => ⟨fun hx => hS _ (h'.1 hx), wpAnyE_mono hS fuel _ a' w' h'.2⟩) (h.2 i hi)⟩
theorem dx_bump {M1 : Mem} (keep0 : List Nat) (hle : ∀ a u, M0 a = some u → M1 a = some u) (K : J cx M s (XE P l (NoPanic Q) M1 L0 ex fuel listed)) : J cx M s (XE P l (NoPanic Q) M0 L0 ex fuel listed) := fun a w ha =>
  wpAnyE_mono (fun w' h => ⟨fun a u hu => h.1 a u (hle a u hu), h.2⟩) _ _ _ _ (K a w ha)
end rules
end Go.Eng
