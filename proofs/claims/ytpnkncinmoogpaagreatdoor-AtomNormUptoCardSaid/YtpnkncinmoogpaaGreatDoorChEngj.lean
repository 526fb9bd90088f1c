/- THE ENGINE, part 10: arrays of elements of one size, in place. -/
import Derived.Test.YtpnkncinmoogpaaGreatDoorChEngi
set_option linter.unusedVariables false
namespace Go.Eng
open Go Go.RowKit

def FL {α : Type} (enc : α → List Value) (xs : List α) (tail : List Value) : List Value := xs.flatMap enc ++ tail
section
variable {α : Type} {enc : α → List Value} {sz : Nat} (he : ∀ x, (enc x).length = sz)
include he
theorem flatMap_len (xs : List α) : (xs.flatMap enc).length = xs.length * sz := by
  induction xs with
  | nil => simp
  | cons x r ih => simp only [List.flatMap_cons, List.length_append, he, ih, List.length_cons]; rw [Nat.add_mul]; omega
theorem FL_len (xs : List α) (tail : List Value) : (FL enc xs tail).length = xs.length * sz + tail.length := by
  simp only [FL, List.length_append, flatMap_len he]
theorem flatMap_get {xs : List α} : ∀ {i : Nat} {x : α}, xs[i]? = some x → ∀ j v, (enc x)[j]? = some v → (xs.flatMap enc)[i * sz + j]? = some v := by
  induction xs with
  | nil => intro i x h; simp at h
  | cons y r ih =>
    intro i x h j v hj
    have hjl : j < sz := by rw [← he x]; exact (List.getElem?_eq_some_iff.1 hj).1
    cases i with
    | zero =>
      simp only [List.getElem?_cons_zero, Option.some.injEq] at h
      subst h
      simp only [List.flatMap_cons, Nat.zero_mul, Nat.zero_add]
      rw [List.getElem?_append_left (by rw [he]; exact hjl)]
      exact hj
    | succ i =>
      simp only [List.getElem?_cons_succ] at h
      simp only [List.flatMap_cons]
      rw [List.getElem?_append_right (by rw [he, Nat.add_mul]; omega), he, show (i + 1) * sz + j - sz = i * sz + j by rw [Nat.add_mul]; omega]
      exact ih h j v hj
theorem FL_get {xs : List α} {tail : List Value} {i : Nat} {x : α} (h : xs[i]? = some x) (j : Nat) (v : Value) (hj : (enc x)[j]? = some v) : (FL enc xs tail)[i * sz + j]? = some v := by
  have := flatMap_get he h j v hj
  unfold FL
  rw [List.getElem?_append_left (List.getElem?_eq_some_iff.1 this).1]
  exact this
theorem FL_take (xs : List α) (tail : List Value) (i : Nat) (hi : i ≤ xs.length) : (FL enc xs tail).take (i * sz) = (xs.take i).flatMap enc := by
  unfold FL
  rw [show xs.flatMap enc = (xs.take i).flatMap enc ++ (xs.drop i).flatMap enc by rw [← List.flatMap_append, List.take_append_drop], List.append_assoc]
  have hl : ((xs.take i).flatMap enc).length = i * sz := by rw [flatMap_len he, List.length_take, Nat.min_eq_left hi]
  exact List.take_left' hl
theorem FL_drop (xs : List α) (tail : List Value) (i : Nat) (hi : i ≤ xs.length) : (FL enc xs tail).drop (i * sz) = FL enc (xs.drop i) tail := by
  unfold FL
  rw [show xs.flatMap enc = (xs.take i).flatMap enc ++ (xs.drop i).flatMap enc by rw [← List.flatMap_append, List.take_append_drop], List.append_assoc]
  have hl : ((xs.take i).flatMap enc).length = i * sz := by rw [flatMap_len he, List.length_take, Nat.min_eq_left hi]
  exact List.drop_left' hl
theorem FL_set (xs : List α) (tail : List Value) (i : Nat) (hi : i < xs.length) (y : α) : inL (FL enc xs tail) (i * sz) (enc y) = FL enc (xs.set i y) tail := by
  unfold inL
  rw [he, show i * sz + sz = (i + 1) * sz by rw [Nat.add_mul]; omega, FL_take he _ _ _ (Nat.le_of_lt hi), FL_drop he _ _ _ hi]
  unfold FL
  rw [List.set_eq_take_append_cons_drop, if_pos hi]
  simp [List.flatMap_append, List.append_assoc]
theorem FL_clear (xs : List α) (tail zs : List Value) (i : Nat) (hi : i ≤ xs.length) : inL (FL enc xs tail) (i * sz) zs = FL enc (xs.take i) (zs ++ (FL enc xs tail).drop (i * sz + zs.length)) := by
  unfold inL
  rw [FL_take he _ _ _ hi]
  simp only [FL, List.append_assoc]
end
theorem FL_one {α : Type} {enc : α → List Value} (h1 : ∀ x, (enc x).all Value.oneCell' = true) : ∀ (xs : List α), ∀ v ∈ xs.flatMap enc, v.oneCell' = true := fun xs v hv => by
  obtain ⟨x, _, hx⟩ := List.mem_flatMap.1 hv
  exact List.all_eq_true.1 (h1 x) v hx
theorem Cells_flat {α : Type} {enc : α → List Value} {sz : Nat} (he : ∀ x, (enc x).length = sz) : ∀ (xs : List α), Cells (flat enc) sz xs (xs.flatMap enc)
  | [] => rfl
  | x :: r => ⟨enc x, r.flatMap enc, by simp [List.flatMap_cons], rfl, he x, Cells_flat he r⟩

theorem row_pubL {α : Type} {enc : α → List Value} {sz : Nat} (he : ∀ x, (enc x).length = sz) {M : Mem} {b : Nat} (xs : List α) (tail : List Value) (h : ∀ j u, (FL enc xs tail)[j]? = some u → M ⟨b, j, none⟩ = some u) : Row (flat enc) sz M (some ⟨b, 0, none⟩) xs := by
  refine .inr ⟨b, 0, rfl, fun i x hx => ⟨enc x, rfl, he x, fun j v hj => ?_⟩⟩
  rw [Nat.zero_add]
  exact h _ _ (FL_get he hx j v hj)
theorem _root_.Go.Eng.Row.atc {α : Type} {rep : α → List Value → Prop} {sz : Nat} {M : Mem} {b o : Nat} {xs : List α} (h : Row rep sz M (some ⟨b, o, none⟩) xs) {i : Nat} {x : α} (hx : xs[i]? = some x) :
    ∃ cs, rep x cs ∧ cs.length = sz ∧ ∀ j v, cs[j]? = some v → M ⟨b, o + i * sz + j, none⟩ = some v := by
  obtain ⟨b', o', cs, hA, h1, h2, h3⟩ := h.at hx
  simp only [Option.some.injEq, Addr.mk.injEq, and_true] at hA
  obtain ⟨rfl, rfl⟩ := hA
  exact ⟨cs, h1, h2, h3⟩
theorem row_cells {α : Type} {enc : α → List Value} {sz : Nat} (he : ∀ x, (enc x).length = sz) {M : Mem} {b o : Nat} {xs : List α} (h : Row (flat enc) sz M (some ⟨b, o, none⟩) xs) : ∀ j v, (xs.flatMap enc)[j]? = some v → M ⟨b, o + j, none⟩ = some v := by
  intro j v hj
  have hl := (List.getElem?_eq_some_iff.1 hj).1
  rw [flatMap_len he] at hl
  have hsz : 0 < sz := by
    rcases Nat.eq_zero_or_pos sz with h0 | h0
    · rw [h0] at hl; omega
    · exact h0
  have hi : j / sz < xs.length := Nat.div_lt_of_lt_mul (by rw [Nat.mul_comm]; exact hl)
  have hr := Nat.mod_lt j hsz
  obtain ⟨b', o', cs, hA, hc, hcl, hm⟩ := h.at (List.getElem?_eq_getElem hi)
  simp only [Option.some.injEq, Addr.mk.injEq, and_true] at hA
  obtain ⟨rfl, rfl⟩ := hA
  subst hc
  have hv : (enc xs[j / sz])[j % sz]? = some (enc xs[j / sz])[j % sz] := List.getElem?_eq_getElem (by rw [he]; exact hr)
  have h1 := flatMap_get he (List.getElem?_eq_getElem hi) _ _ hv
  have e : j / sz * sz + j % sz = j := by rw [Nat.mul_comm]; exact Nat.div_add_mod j sz
  rw [e, hj] at h1
  injection h1 with h1
  have h2 := hm _ _ hv
  rw [← h1, Nat.add_assoc, e] at h2
  exact h2
/-- A slice of elements of one size. -/
def SlV {α : Type} (enc : α → List Value) (sz : Nat) (xs : List α) : Value → Mem → Prop := fun v M => ∃ A c, v = .slice A xs.length c ∧ xs.length ≤ c ∧ Row (flat enc) sz M A xs
theorem wrap_mod {a b : Int} (h : a % (2 : Int) ^ IntKind.i64.bits = b % (2 : Int) ^ IntKind.i64.bits) : IntKind.i64.wrap a = IntKind.i64.wrap b := by simp only [IntKind.wrap, h]
theorem notI_eq (n : Int) (h0 : -9223372036854775808 ≤ n) (h1 : n ≤ 9223372036854775807) : notI n = -1 - n := by
  have e : (BitVec.ofInt 64 (-1) ^^^ BitVec.ofInt 64 n) = ~~~ (BitVec.ofInt 64 n) := by
    have : BitVec.ofInt 64 (-1) = BitVec.allOnes 64 := by decide
    rw [this]; exact BitVec.allOnes_xor
  show IntKind.i64.wrap ((BitVec.ofInt 64 (-1) ^^^ BitVec.ofInt 64 n).toNat : Nat) = -1 - n
  rw [e, BitVec.toNat_not, BitVec.toNat_ofInt]
  have hx : ((18446744073709551616 - 1 - (n % ((18446744073709551616 : Nat) : Int)).toNat : Nat) : Int) = 18446744073709551615 - n % 18446744073709551616 := by omega
  have hm : IntKind.i64.wrap (18446744073709551615 - n % 18446744073709551616) = IntKind.i64.wrap (-1 - n) := by
    refine wrap_mod ?_
    show (18446744073709551615 - n % 18446744073709551616) % 18446744073709551616 = (-1 - n) % 18446744073709551616
    omega
  rw [show (2 : Nat) ^ 64 = 18446744073709551616 from rfl, hx, hm]
  exact IntWalk.i64_in _ (by omega)
/-- A slice of an own block: where it begins. -/
theorem sliced_of {b l h m s : Nat} (hne : m ≠ l) : sliced (some ⟨b, 0, none⟩) l h m s = .slice (some ⟨b, l * s, none⟩) (h - l) (m - l) := by
  simp only [sliced, if_neg hne, Option.map_some, add_off, Nat.zero_add]
theorem sliced_0 {b h m s : Nat} : sliced (some ⟨b, 0, none⟩) 0 h m s = .slice (some ⟨b, 0, none⟩) h m := by
  simp only [sliced, Option.map_some, add_off, Nat.zero_mul, Nat.add_zero, Nat.sub_zero]; split <;> rfl
theorem sliced_full {b l h s : Nat} : sliced (some ⟨b, 0, none⟩) l h l s = .slice (some ⟨b, 0, none⟩) (h - l) 0 := by
  simp only [sliced, if_pos, Nat.sub_self]

section rules
variable {P : Program} {cx : Cx} {M : Mem} {s : SS} {l : List Oper} {k : Nat} {Q : Exit → Act → World → Prop} {X : Act → World → Prop}
theorem g_storeA (i : Nat) {b o sz t : Nat} {v : Value} {cs : List Value} (cs' : List Value) (h : storeS P cx.n l k s = some (⟨b, o, none⟩, v, sz)) (hl : lk s.L i = some (.cells b cs t)) (vs : List Value) (hv : v.cells.toList = vs) (hn : vs.length = sz) (h1 : vs.all Value.oneCell' = true) (hle : o + sz ≤ cs.length) (he : inL cs o vs = cs')
    (K : J cx M ⟨s.S, setL s.L i cs', s.R, s.nx⟩ (wpList P l.toArray Q (l.drop (k + 1)))) : J cx M s (wpList P l.toArray Q (l.drop k)) := by
  subst he; exact g_storeO i h hl vs hv hn h1 hle K
theorem g_clearA (i : Nat) {b o n t : Nat} {cs zc : List Value} (cs' : List Value) (h : clearS P cx.n l k s = some (some ⟨b, o, none⟩, n, zc)) (hl : lk s.L i = some (.cells b cs t)) (hle : o + n * zc.length ≤ cs.length) (he : inL cs o (zerosL zc n) = cs')
    (K : J cx M ⟨s.S, setL s.L i cs', s.R, s.nx⟩ (wpList P l.toArray Q (l.drop (k + 1)))) : J cx M s (wpList P l.toArray Q (l.drop k)) := by
  subst he; exact g_clear i h hl hle K
theorem g_sliceA {dst : Option Tmp} {A : Option Addr} {len cap sz : Nat} {lo hi : Option Int} (i j : Nat) (v' : Value) (h : sliceS P cx.n l k s = some (dst, A, len, cap, sz, lo, hi)) (hlo : lo = some (i : Int) ∨ lo = none ∧ i = 0) (hhi : hi = some (j : Int) ∨ hi = none ∧ j = len) (h1 : i ≤ j) (h2 : j ≤ cap) (h3 : hi = none → len ≤ cap) (hv : sliced A i j cap sz = v')
    (K : J cx M ⟨putS dst (.v v') s.S, s.L, s.R, s.nx⟩ (wpList P l.toArray Q (l.drop (k + 1)))) : J cx M s (wpList P l.toArray Q (l.drop k)) := by
  subst hv; exact g_yld (y_slice h i j hlo hhi h1 h2 h3) K
/-- s + t of strings. -/
def catS (P : Program) (n : Nat) (l : List Oper) (k : Nat) (s : SS) : Option (Option Tmp × ByteArray × ByteArray) :=
  match l[k]? with
  | some o => match guardS l s o.guard, o.op with
    | some true, .binOp .add _ x y _ => match vl s x, vl s y with
      | some (.string a), some (.string b) => bif okD n o.dst then some (o.dst, a, b) else none
      | _, _ => none
    | _, _ => none
  | none => none
theorem y_cat {Mk : Mem} {dst : Option Tmp} {a b : ByteArray} (h : catS P cx.n l k s = some (dst, a, b)) (hs : a.size + b.size ≤ 9223372036854775807) : Yld P cx M Mk s l k dst (.string (a ++ b)) := by
  unfold catS at h
  cases ho : l[k]? with
  | none => rw [ho] at h; cases h
  | some oo =>
    rw [ho] at h
    simp only at h
    cases hg : guardS l s oo.guard with
    | none => rw [hg] at h; cases h
    | some c =>
      cases c with
      | false => rw [hg] at h; cases h
      | true =>
        rw [hg] at h
        obtain ⟨od, op, ty, pos, af, gd⟩ := oo
        cases op <;> first | (cases h; done) | skip
        rename_i bop t x y tt
        cases bop <;> first | (cases h; done) | skip
        simp only at h
        cases hx : vl s x with
        | none => rw [hx] at h; cases h
        | some u =>
        cases hy : vl s y with
        | none => rw [hx, hy] at h; cases u <;> cases h
        | some v =>
        rw [hx, hy] at h
        cases u <;> first | (cases h; done) | skip
        cases v <;> first | (cases h; done) | skip
        rename_i a' b'
        simp only at h
        cases hd : okD cx.n od with
        | false => rw [hd] at h; cases h
        | true =>
        rw [hd] at h
        simp only [cond_true, Option.some.injEq, Prod.mk.injEq] at h
        obtain ⟨rfl, rfl, rfl⟩ := h
        refine yld_of ho hg hd _ (fun ac w0 ha w hw => ?_)
        simp only [execOp, ha.evalv hx, ha.evalv hy, Sem.run_bind, run_eqGuard_str, Result.andThen_ok]
        have hlt : ¬ (((a'.size + b'.size : Nat) : Int) > IntKind.i64.max) := by
          show ¬ (((a'.size + b'.size : Nat) : Int) > 9223372036854775807)
          omega
        simp only [binOp, Op.stringOp, if_neg hlt, Sem.run_pure, Result.andThen_ok]
end rules
end Go.Eng
