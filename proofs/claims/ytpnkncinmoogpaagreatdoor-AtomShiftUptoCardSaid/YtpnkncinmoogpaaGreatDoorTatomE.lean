import Derived.Test.YtpnkncinmoogpaaGreatDoorTatomD
import Derived.Test.YtpnkncinmoogpaaGreatDoorTLib
set_option linter.unusedVariables false
namespace Go.Ch
open Go Go.Eng Go.Proofs
def textA (names : List ByteArray) (a : Int) : ByteArray := if isPt a = false then (⟨#[39]⟩ : ByteArray) ++ itoaB a else (names[(ptOf a).toNat]?).getD ⟨#[63]⟩
def textP (names : List ByteArray) (p : Int × Int) : ByteArray := textA names p.1 ++ (⟨#[32, 60, 61, 32]⟩ : ByteArray) ++ textA names p.2
def textsA (names : List ByteArray) (xs : List (Int × Int)) : ByteArray := if xs.map (textP names) = [] then ⟨#[45]⟩ else joinB (xs.map (textP names)) ⟨#[44, 32]⟩
theorem ptOf_nonneg {a : Int} (h : isPt a = true) (h0 : -9223372036854775808 ≤ a) (h1 : a ≤ 9223372036854775807) : 0 ≤ ptOf a := by
  have := of_decide_eq_true (show decide (a < 0) = true from h)
  unfold ptOf
  rw [notI_eq a h0 h1]
  split <;> omega
theorem textA_var {names : List ByteArray} {a : Int} (h : isPt a = false) : textA names a = (⟨#[39]⟩ : ByteArray) ++ itoaB a := if_pos h
theorem textA_name {names : List ByteArray} {a : Int} {x : ByteArray} (h : isPt a = true) (h0 : 0 ≤ ptOf a) (hx : names[(ptOf a).toNat]? = some x) : textA names a = x := by
  unfold textA; rw [if_neg (by rw [h]; decide), hx]; rfl
theorem textA_none {names : List ByteArray} {a : Int} (h : isPt a = true) (hx : names.length ≤ (ptOf a).toNat) : textA names a = ⟨#[63]⟩ := by
  unfold textA; rw [if_neg (by rw [h]; decide), List.getElem?_eq_none hx]; rfl
theorem decDigits_le : ∀ (k u : Nat), u < 10 ^ (k + 1) → (Lib.decDigits u).length ≤ k + 1
  | 0, u, h => by
    unfold Lib.decDigits
    rw [dif_pos (by simpa using h)]; simp
  | k + 1, u, h => by
    unfold Lib.decDigits
    split
    · simp
    · have h2 : u / 10 < 10 ^ (k + 1) := by
        rw [Nat.pow_succ] at h
        exact Nat.div_lt_of_lt_mul (by rw [Nat.mul_comm]; exact h)
      have := decDigits_le k (u / 10) h2
      simp only [List.length_append, List.length_cons, List.length_nil]; omega
theorem itoaB_size (a : Int) (h0 : -9223372036854775808 ≤ a) (h1 : a ≤ 9223372036854775807) : (itoaB a).size ≤ 21 := by
  show (Lib.itoa a).toArray.size ≤ 21
  unfold Lib.itoa
  split
  · have := decDigits_le 19 a.natAbs (by show a.natAbs < 100000000000000000000; omega)
    simp only [List.size_toArray, List.length_cons]; omega
  · have := decDigits_le 19 a.toNat (by show a.toNat < 100000000000000000000; omega)
    simp only [List.size_toArray]; omega
theorem textA_size {names : List ByteArray} (hns : ∀ x ∈ names, x.size ≤ 1048576) (a : Int) (h0 : -9223372036854775808 ≤ a) (h1 : a ≤ 9223372036854775807) : (textA names a).size ≤ 1048576 := by
  unfold textA
  split
  · have := itoaB_size a h0 h1
    rw [ByteArray.size_append]
    have h1 : (⟨#[39]⟩ : ByteArray).size = 1 := rfl
    omega
  · cases h : names[(ptOf a).toNat]? with
    | none => decide
    | some x => exact hns x (List.mem_of_getElem? h)
abbrev InR (a : Int) : Prop := -9223372036854775808 ≤ a ∧ a ≤ 9223372036854775807
theorem textP_size {names : List ByteArray} (hns : ∀ x ∈ names, x.size ≤ 1048576) (p : Int × Int) (h : InR p.1 ∧ InR p.2) : (textP names p).size ≤ 2097156 := by
  have h1 := textA_size hns p.1 h.1.1 h.1.2
  have h2 := textA_size hns p.2 h.2.1 h.2.2
  have h4 : (⟨#[32, 60, 61, 32]⟩ : ByteArray).size = 4 := rfl
  unfold textP
  rw [ByteArray.size_append, ByteArray.size_append]; omega
theorem lens_le (c : Nat) : ∀ (ys : List (List UInt8)), (∀ y ∈ ys, y.length ≤ c) → Lib.lens ys ≤ ys.length * c
  | [], _ => by simp [Lib.lens]
  | y :: r, h => by
    have h1 := h y List.mem_cons_self
    have h2 := lens_le c r (fun z hz => h z (List.mem_cons_of_mem _ hz))
    simp only [Lib.lens, List.length_cons, List.map_cons, List.sum_cons] at *
    rw [Nat.add_mul]; omega
theorem join_small {names : List ByteArray} (hns : ∀ x ∈ names, x.size ≤ 1048576) {xs : List (Int × Int)} (hx : xs.length ≤ 1048576) (hr : ∀ p ∈ xs, InR p.1 ∧ InR p.2) : (Lib.join ((xs.map (textP names)).map (·.data.toList)) (⟨#[44, 32]⟩ : ByteArray).data.toList).length ≤ 140737488355328 := by
  have hb := lens_le 2097156 ((xs.map (textP names)).map (·.data.toList)) (fun y hy => by
    obtain ⟨z, hz, rfl⟩ := List.mem_map.1 hy
    obtain ⟨p, hp, rfl⟩ := List.mem_map.1 hz
    have := textP_size hns p (hr p hp)
    rw [Array.length_toList]; exact this)
  cases hy : (xs.map (textP names)).map (·.data.toList) with
  | nil => simp [Lib.join_nil]
  | cons y r =>
    rw [hy] at hb
    have hl : r.length + 1 ≤ 1048576 := by
      have := congrArg List.length hy
      simp only [List.length_map, List.length_cons] at this
      omega
    rw [Lib.join_length]
    have h2 : (⟨#[44, 32]⟩ : ByteArray).data.toList.length = 2 := rfl
    rw [h2]
    simp only [List.length_cons] at hb
    have h3 : (r.length + 1) * 2097156 ≤ 1048576 * 2097156 := Nat.mul_le_mul_right _ hl
    omega
theorem joinA_calls {M : Mem} {w : World} (hM : Sat M w) (xs : List ByteArray) (A : Option Addr) (c : Nat) (hne : xs ≠ []) (hrow : Row (flat chS) 1 M A xs) (sep : ByteArray) (hcap : xs.length ≤ c) (hN : xs.length ≤ 140737488355328) (hlen : (Lib.join (xs.map (·.data.toList)) sep.data.toList).length ≤ 140737488355328) :
    Ct Tryz.prog 52 [.slice A xs.length c, .string sep] [] w M (fun v _ => v = .string (joinB xs sep)) := by
  rcases hrow with ⟨rfl, h⟩ | ⟨b, o, rfl, hc⟩
  · exact absurd h hne
  · exact join_calls hM xs b o c hne (.inr ⟨b, o, rfl, hc⟩) sep hcap hN hlen

theorem text_calls {M : Mem} {w : World} (hM : Sat M w) (hT : TabW w) (names : List ByteArray) (N : Option Addr) (cN : Nat) (hnames : Row (flat chS) 1 M N names) (hnl : names.length ≤ 1048576) (hns : ∀ x ∈ names, x.size ≤ 1048576) (a : Int) (h0 : -9223372036854775808 ≤ a) (h1 : a ≤ 9223372036854775807) : Ct Tryz.prog 28 [.slice N names.length cN, .int .i64 a] [] w M (fun v _ => v = .string (textA names a)) := by
  refine enter (n := 23) Tryz.func28 rfl rfl _ (by kernel_rfl) hM ?_
  refine g_seq ?_
  refine g_region ?_
  refine g_exec 1 [0, 1, 4] [] [] (fun _ => ⟨[(0, .v (.slice N names.length cN)), (1, .v (.int .i64 a)), (4, .v (.string ⟨#[]⟩))], [], [], 0⟩) (fun _ => by kernel_rfl) fun _ => ?_
  refine g_end (by kernel_rfl) ?_
  refine n_then ?_
  refine g_seq ?_
  refine g_block ?_
  refine g_seq ?_
  refine g_region ?_
  refine g_exec 1 [0, 1, 4, 6] [] [] (fun _ => ⟨[(0, .v (.slice N names.length cN)), (1, .v (.int .i64 a)), (4, .v (.string ⟨#[]⟩)), (6, .v (.int .i64 a))], [], [], 0⟩) (fun _ => by kernel_rfl) fun _ => ?_
  refine g_call (dst := some 7) (g := 27) (args := [.int .i64 a]) (by kernel_rfl) (by kernel_rfl) (fun v _ => v = .bool (isPt a)) (by intro w hst; exact isPoint_calls hst.sat a) ?_
  rintro _ M3 le4 rfl
  refine g_exec 2 [0, 1, 4, 5] [] [] (fun _ => ⟨[(0, .v (.slice N names.length cN)), (1, .v (.int .i64 a)), (4, .v (.string ⟨#[]⟩)), (5, .v (.bool (!(isPt a))))], [], [], 0⟩) (fun _ => by kernel_rfl) fun _ => ?_
  refine g_end (by kernel_rfl) ?_
  refine n_then ?_
  refine g_cond (!(isPt a)) (by kernel_rfl) (fun hc6 => ?_) (fun hc6 => ?_)
  · have hpt : isPt a = false := by simpa using hc6
    have hit := itoaB_size a h0 h1
    refine g_seq ?_
    refine g_region ?_
    refine g_exec 1 [4, 9] [] [] (fun _ => ⟨[(4, .v (.string ⟨#[]⟩)), (9, .v (.int .i64 a))], [], [], 0⟩) (fun _ => by kernel_rfl) fun _ => ?_
    refine g_call (dst := some 10) (g := 50) (args := [.int .i64 a]) (by kernel_rfl) (by kernel_rfl) (fun v _ => v = .string (itoaB a)) (by intro w hst; exact itoa_calls hst.sat (hT.ext hst.ext0) a h0 h1) ?_
    rintro _ M8 le9 rfl
    refine g_yld (y_cat (dst := some 11) (a := (⟨#[39]⟩ : ByteArray)) (b := (itoaB a)) (by kernel_rfl) (by show (⟨#[39]⟩ : ByteArray).size + (itoaB a).size ≤ _; have : (⟨#[39]⟩ : ByteArray).size = 1 := rfl; omega)) ?_
    refine g_exec 1 [4] [] [] (fun _ => ⟨[(4, .v (.string ((⟨#[39]⟩ : ByteArray) ++ (itoaB a))))], [], [], 0⟩) (fun _ => by kernel_rfl) fun _ => ?_
    refine g_end (by kernel_rfl) ?_
    refine n_then ?_
    refine g_ret ?_
    refine n_block_ret ?_
    refine n_then_ret ?_
    exact n_post (.string ((⟨#[39]⟩ : ByteArray) ++ (itoaB a))) (by kernel_rfl) (by rw [textA_var hpt])
  · have hpt : isPt a = true := by simpa using hc6
    have hit := itoaB_size a h0 h1
    have hp0 := ptOf_nonneg hpt h0 h1
    refine g_seq ?_
    refine g_region ?_
    refine g_exec 1 [0, 1, 4, 13] [] [] (fun _ => ⟨[(0, .v (.slice N names.length cN)), (1, .v (.int .i64 a)), (4, .v (.string ⟨#[]⟩)), (13, .v (.int .i64 a))], [], [], 0⟩) (fun _ => by kernel_rfl) fun _ => ?_
    refine g_call (dst := some 14) (g := 25) (args := [.int .i64 a]) (by kernel_rfl) (by kernel_rfl) (fun v _ => v = .int .i64 (ptOf a)) (by intro w hst; exact pointOf_calls hst.sat a) ?_
    rintro _ M13 le14 rfl
    refine g_exec 4 [0, 1, 4, 12] [] [] (fun _ => ⟨[(0, .v (.slice N names.length cN)), (1, .v (.int .i64 a)), (4, .v (.string ⟨#[]⟩)), (12, .v (.bool (decide ((ptOf a) < ((names.length : Nat) : Int)))))], [], [], 0⟩) (fun _ => by kernel_rfl) fun _ => ?_
    refine g_end (by kernel_rfl) ?_
    refine n_then ?_
    refine g_cond (decide ((ptOf a) < ((names.length : Nat) : Int))) (by kernel_rfl) (fun hc16 => ?_) (fun hc16 => ?_)
    · replace hc16 := of_decide_eq_true hc16
      refine g_seq ?_
      refine g_region ?_
      refine g_exec 2 [4, 18, 19] [] [] (fun _ => ⟨[(4, .v (.string ⟨#[]⟩)), (18, .v (.slice N names.length cN)), (19, .v (.int .i64 a))], [], [], 0⟩) (fun _ => by kernel_rfl) fun _ => ?_
      refine g_call (dst := some 20) (g := 25) (args := [.int .i64 a]) (by kernel_rfl) (by kernel_rfl) (fun v _ => v = .int .i64 (ptOf a)) (by intro w hst; exact pointOf_calls hst.sat a) ?_
      rintro _ M18 le19 rfl
      obtain ⟨x23, hx23⟩ : ∃ p, names[(ptOf a).toNat]? = some p := ⟨_, List.getElem?_eq_getElem (show (ptOf a).toNat < names.length by omega)⟩
      obtain ⟨b21, o22, _, rfl, rfl, _, heb21⟩ := hnames.at hx23
      refine g_yld (y_index (dst := some 21) (b := b21) (o := o22) (len := names.length) (kk := .i64) (ii := (ptOf a)) (sz := 1) (by kernel_rfl) (by omega) (by omega)) ?_
      refine g_yld (y_load1 (dst := some 22) (ad := ⟨b21, o22 + ((ptOf a).toNat) * 1, none⟩) (sz := 1) (by kernel_rfl) (v := .string x23) (le19 _ _ (le14 _ _ (le4 _ _ (heb21 0 _ rfl))))) ?_
      refine g_exec 1 [4] [] [] (fun _ => ⟨[(4, .v (.string x23))], [], [], 0⟩) (fun _ => by kernel_rfl) fun _ => ?_
      refine g_end (by kernel_rfl) ?_
      refine n_then ?_
      refine g_ret ?_
      refine n_block_ret ?_
      refine n_then_ret ?_
      exact n_post (.string x23) (by kernel_rfl) (by rw [textA_name hpt hp0 hx23])
    · replace hc16 := of_decide_eq_false hc16
      refine g_skip ?_
      refine n_block ?_
      refine n_then ?_
      refine g_seq ?_
      refine g_region ?_
      refine g_exec 1 [4] [] [] (fun _ => ⟨[(4, .v (.string ⟨#[63]⟩))], [], [], 0⟩) (fun _ => by kernel_rfl) fun _ => ?_
      refine g_end (by kernel_rfl) ?_
      refine n_then ?_
      refine g_ret ?_
      exact n_post (.string ⟨#[63]⟩) (by kernel_rfl) (by rw [textA_none hpt (by omega)])
theorem texts_calls {M : Mem} {w : World} (hM : Sat M w) (hT : TabW w) (names : List ByteArray) (N : Option Addr) (cN : Nat) (hnames : Row (flat chS) 1 M N names) (hnl : names.length ≤ 1048576) (hns : ∀ x ∈ names, x.size ≤ 1048576) (xs : List (Int × Int)) (A : Option Addr) (c : Nat) (hrow : Row (flat chP) 2 M A xs) (hxl : xs.length ≤ 1048576) (hrange : ∀ p ∈ xs, (-9223372036854775808 ≤ p.1 ∧ p.1 ≤ 9223372036854775807) ∧ (-9223372036854775808 ≤ p.2 ∧ p.2 ≤ 9223372036854775807)) : Ct Tryz.prog 30 [.slice N names.length cN, .slice A xs.length c] [] w M (fun v _ => v = .string (textsA names xs)) := by
  refine enter (n := 33) Tryz.func30 rfl rfl _ (by kernel_rfl) hM ?_
  refine g_seq ?_
  refine g_region ?_
  refine g_exec 1 [0, 1, 4] [] [] (fun _ => ⟨[(0, .v (.slice N names.length cN)), (1, .v (.slice A xs.length c)), (4, .v (.string ⟨#[]⟩))], [], [], 0⟩) (fun _ => by kernel_rfl) fun _ => ?_
  refine g_end (by kernel_rfl) ?_
  refine n_then ?_
  refine g_seq ?_
  refine g_region ?_
  refine g_exec 1 [0, 1, 4, 5] [] [] (fun _ => ⟨[(0, .v (.slice N names.length cN)), (1, .v (.slice A xs.length c)), (4, .v (.string ⟨#[]⟩)), (5, .v (.slice none 0 0))], [], [], 0⟩) (fun _ => by kernel_rfl) fun _ => ?_
  refine g_end (by kernel_rfl) ?_
  refine n_then ?_
  refine g_seq ?_
  refine g_seq ?_
  refine g_region ?_
  refine g_exec 3 [0, 4, 5, 8, 9, 10] [] [] (fun _ => ⟨[(0, .v (.slice N names.length cN)), (4, .v (.string ⟨#[]⟩)), (5, .v (.slice none 0 0)), (8, .v (.slice A xs.length c)), (9, .v (.int .i64 ((xs.length : Nat) : Int))), (10, .v (.int .i64 0))], [], [], 0⟩) (fun _ => by kernel_rfl) fun _ => ?_
  refine g_end (by kernel_rfl) ?_
  refine n_then ?_
  refine g_block ?_
  refine g_newrow 0 9 1 rfl ?_
  refine g_fin [0, 4, 5, 8, 9, 10] [] [0] ⟨[(0, .v (.slice N names.length cN)), (4, .v (.string ⟨#[]⟩)), (5, .v (.slice none 0 0)), (8, .v (.slice A xs.length c)), (9, .v (.int .i64 ((xs.length : Nat) : Int))), (10, .v (.int .i64 0))], [], [(0, ⟨.slice none 0 0, 9, 1, 0, []⟩)], 0⟩ (by kernel_rfl) ?_
  refine g_while (ι := Nat) (fun k M4 s => ∃ (v : Value) (cs : List Value), s = ⟨[(0, .v (.slice N names.length cN)), (4, .v (.string ⟨#[]⟩)), (5, .v (v)), (8, .v (.slice A xs.length c)), (9, .v (.int .i64 ((xs.length : Nat) : Int))), (10, .v (.int .i64 (k : Int)))], [], [(0, ⟨v, 9, 1, k, cs⟩)], 0⟩ ∧ (k ≤ xs.length ∧ cs = ((xs.take k).map (textP names)).flatMap chS) ∧ (∀ a u, M a = some u → M4 a = some u)) (fun k => xs.length - k) 0 ⟨_, _, rfl, ⟨Nat.zero_le _, rfl⟩, (fun _ _ h => h)⟩ ?_
  rintro k M4 _ ⟨v, cs, rfl, ⟨hk, hcs⟩, le5⟩
  refine g_seq ?_
  refine g_region ?_
  refine g_exec 1 [0, 4, 5, 8, 9, 10, 11] [] [0] (fun _ => ⟨[(0, .v (.slice N names.length cN)), (4, .v (.string ⟨#[]⟩)), (5, .v (v)), (8, .v (.slice A xs.length c)), (9, .v (.int .i64 ((xs.length : Nat) : Int))), (10, .v (.int .i64 (k : Int))), (11, .v (.bool (decide ((k : Int) < ((xs.length : Nat) : Int)))))], [], [(0, ⟨v, 9, 1, k, cs⟩)], 0⟩) (fun _ => by kernel_rfl) fun _ => ?_
  refine g_end (by kernel_rfl) ?_
  refine n_then ?_
  refine g_seq ?_
  refine g_cond (decide ((k : Int) < ((xs.length : Nat) : Int))) (by kernel_rfl) (fun hc7 => ?_) (fun hc7 => ?_)
  · replace hc7 := of_decide_eq_true hc7
    refine g_skip ?_
    refine n_then ?_
    refine g_seq ?_
    refine g_block ?_
    refine g_seq ?_
    refine g_region ?_
    obtain ⟨x11, hx11⟩ : ∃ p, xs[k]? = some p := ⟨_, List.getElem?_eq_getElem (show k < xs.length by omega)⟩
    obtain ⟨b9, o10, _, rfl, rfl, _, heb9⟩ := hrow.at hx11
    have hrx11 := hrange x11 (List.mem_of_getElem? hx11)
    have hs1 := textA_size hns x11.1 hrx11.1.1 hrx11.1.2
    have hs2 := textA_size hns x11.2 hrx11.2.1 hrx11.2.2
    refine g_yld (y_index (dst := some 12) (b := b9) (o := o10) (len := xs.length) (kk := .i64) (ii := (k : Int)) (sz := 2) (by kernel_rfl) (by omega) (by omega)) ?_
    refine g_yld (y_loads (dst := some 13) (b := b9) (o := o10 + k * 2) (sz := 2) (by kernel_rfl) (cs := [.int .i64 x11.1, .int .i64 x11.2]) rfl (fun j v hj => le5 _ _ (heb9 j v hj))) ?_
    refine g_exec 2 [0, 4, 5, 7, 8, 9, 10] [0] [0] (fun f13 => ⟨[(0, .v (.slice N names.length cN)), (4, .v (.string ⟨#[]⟩)), (5, .v (v)), (7, .l 0 (f13 2) 0), (8, .v (.slice (some ⟨b9, o10, none⟩) xs.length c)), (9, .v (.int .i64 ((xs.length : Nat) : Int))), (10, .v (.int .i64 (k : Int)))], [(0, .cells (f13 2) [.int .i64 x11.1, .int .i64 x11.2] 53)], [(0, ⟨v, 9, 1, k, cs⟩)], 1⟩) (fun _ => by kernel_rfl) fun f13 => ?_
    refine g_end (by kernel_rfl) ?_
    refine n_then ?_
    refine d_begin (by kernel_rfl) [0] [] 14 (by kernel_rfl) ?_
    refine dx_exec (fuel := 7) [0] [0, 1, 2, 3, 6, 7, 8] [0, 4, 5, 8, 9, 10, 14, 15, 17, 20, 22] [0] [0] [true, true, true, true, false, false, true, true, true, false, false, false, false, false] ⟨[(0, .v (.slice N names.length cN)), (4, .v (.string ⟨#[]⟩)), (5, .v (v)), (8, .v (.slice (some ⟨b9, o10, none⟩) xs.length c)), (9, .v (.int .i64 ((xs.length : Nat) : Int))), (10, .v (.int .i64 (k : Int))), (14, .v (v)), (15, .v (.slice N names.length cN)), (17, .v (.int .i64 x11.1)), (20, .v (.slice N names.length cN)), (22, .v (.int .i64 x11.2))], [(0, .cells (f13 2) [.int .i64 x11.1, .int .i64 x11.2] 53)], [(0, ⟨v, 9, 1, k, cs⟩)], 1⟩ (by kernel_rfl) (fun _ _ h => h) (by kernel_rfl) (by kernel_rfl) ?_ rfl
    refine dx_op (fuel := 6) (i := 4) [true, true, true, true, true, false, true, true, true, false, false, false, false, false] (by kernel_rfl) (by kernel_rfl) ?_ rfl
    refine o_call (dst := some 18) (g := 28) (args := [.slice N names.length cN, .int .i64 x11.1]) (by kernel_rfl) (by kernel_rfl) (fun v _ => v = .string (textA names x11.1)) (by intro w hst; exact text_calls hst.sat (hT.ext hst.ext0) names N cN (hnames.le (fun _ _ h => (le5 _ _ h))) hnl hns x11.1 (hrx11).1.1 (hrx11).1.2) ?_
    rintro _ M14 le15 rfl
    refine dx_know [0] (fun _ _ h => (le15 _ _ h)) (by kernel_rfl) ?_
    refine dx_yld (fuel := 5) (i := 5) [0] [true, true, true, true, true, true, true, true, true, false, false, false, false, false] (by kernel_rfl) (fun _ _ h => (le15 _ _ h)) (by kernel_rfl) (y_cat (dst := some 19) (a := (textA names x11.1)) (b := (⟨#[32, 60, 61, 32]⟩ : ByteArray)) (by kernel_rfl) (by have h4 : (⟨#[32, 60, 61, 32]⟩ : ByteArray).size = 4 := rfl; (try rw [ByteArray.size_append]); omega)) (by kernel_rfl) (by kernel_rfl) ?_ rfl
    refine dx_op (fuel := 4) (i := 9) [true, true, true, true, true, true, true, true, true, true, false, false, false, false] (by kernel_rfl) (by kernel_rfl) ?_ rfl
    refine o_call (dst := some 23) (g := 28) (args := [.slice N names.length cN, .int .i64 x11.2]) (by kernel_rfl) (by kernel_rfl) (fun v _ => v = .string (textA names x11.2)) (by intro w hst; exact text_calls hst.sat (hT.ext hst.ext0) names N cN (hnames.le (fun _ _ h => (le15 _ _ (le5 _ _ h)))) hnl hns x11.2 (hrx11).2.1 (hrx11).2.2) ?_
    rintro _ M16 le17 rfl
    refine dx_know [0] (fun _ _ h => (le17 _ _ (le15 _ _ h))) (by kernel_rfl) ?_
    refine dx_yld (fuel := 3) (i := 10) [0] [true, true, true, true, true, true, true, true, true, true, true, false, false, false] (by kernel_rfl) (fun _ _ h => (le17 _ _ (le15 _ _ h))) (by kernel_rfl) (y_cat (dst := some 24) (a := ((textA names x11.1) ++ (⟨#[32, 60, 61, 32]⟩ : ByteArray))) (b := (textA names x11.2)) (by kernel_rfl) (by have h4 : (⟨#[32, 60, 61, 32]⟩ : ByteArray).size = 4 := rfl; (try rw [ByteArray.size_append]); omega)) (by kernel_rfl) (by kernel_rfl) ?_ rfl
    refine dx_op (fuel := 2) (i := 11) [true, true, true, true, true, true, true, true, true, true, true, true, false, false] (by kernel_rfl) (by kernel_rfl) ?_ rfl
    refine o_step (used := true) (fun n18 => ⟨[(25, .v (.slice (some ⟨n18, 0, none⟩) 1 1)), (24, .v (.string (((textA names x11.1) ++ (⟨#[32, 60, 61, 32]⟩ : ByteArray)) ++ (textA names x11.2)))), (23, .v (.string (textA names x11.2))), (19, .v (.string ((textA names x11.1) ++ (⟨#[32, 60, 61, 32]⟩ : ByteArray)))), (18, .v (.string (textA names x11.1))), (0, .v (.slice N names.length cN)), (4, .v (.string ⟨#[]⟩)), (5, .v (v)), (8, .v (.slice (some ⟨b9, o10, none⟩) xs.length c)), (9, .v (.int .i64 ((xs.length : Nat) : Int))), (10, .v (.int .i64 (k : Int))), (14, .v (v)), (15, .v (.slice N names.length cN)), (17, .v (.int .i64 x11.1)), (20, .v (.slice N names.length cN)), (22, .v (.int .i64 x11.2))], [(1, .cells n18 [.string (((textA names x11.1) ++ (⟨#[32, 60, 61, 32]⟩ : ByteArray)) ++ (textA names x11.2))] 9), (0, .cells (f13 2) [.int .i64 x11.1, .int .i64 x11.2] 53)], [(0, ⟨v, 9, 1, k, cs⟩)], 2⟩) rfl (by kernel_rfl) (fun _ => by kernel_rfl) (fun n18 => ?_)
    refine dx_know [0] (fun _ _ h => (le17 _ _ (le15 _ _ h))) (by kernel_rfl) ?_
    refine dx_op (fuel := 1) (i := 12) [true, true, true, true, true, true, true, true, true, true, true, true, true, false] (by kernel_rfl) (by kernel_rfl) ?_ rfl
    refine o_append (dst := some 26) 0 1 1 (u := v) (row := ⟨v, 9, 1, k, cs⟩) (b := n18) (cs := [.string (((textA names x11.1) ++ (⟨#[32, 60, 61, 32]⟩ : ByteArray)) ++ (textA names x11.2))]) (bytes := 16) (by kernel_rfl) rfl rfl (by show (k + 1) * 16 ≤ 140737488355328; omega) (by show k + 1 ≤ 140737488355328; omega) ?_
    intro v19
    refine dx_know [0] (fun _ _ h => (le17 _ _ (le15 _ _ h))) (by kernel_rfl) ?_
    refine dx_exec (fuel := 0) [0] [13] [0, 4, 5, 8, 9, 10] [0] [0] [true, true, true, true, true, true, true, true, true, true, true, true, true, true] ⟨[(0, .v (.slice N names.length cN)), (4, .v (.string ⟨#[]⟩)), (5, .v (v19)), (8, .v (.slice (some ⟨b9, o10, none⟩) xs.length c)), (9, .v (.int .i64 ((xs.length : Nat) : Int))), (10, .v (.int .i64 (k : Int)))], [(0, .cells (f13 2) [.int .i64 x11.1, .int .i64 x11.2] 53)], [(0, ⟨v19, 9, 1, k + 1, cs ++ [.string (((textA names x11.1) ++ (⟨#[32, 60, 61, 32]⟩ : ByteArray)) ++ (textA names x11.2))]⟩)], 1⟩ (by kernel_rfl) (fun _ _ h => (le17 _ _ (le15 _ _ h))) (by kernel_rfl) (by kernel_rfl) ?_ rfl
    refine d_end (by kernel_rfl) ?_
    refine n_block ?_
    refine n_then ?_
    refine g_region ?_
    refine g_exec 2 [0, 4, 5, 8, 9, 10] [] [0] (fun _ => ⟨[(0, .v (.slice N names.length cN)), (4, .v (.string ⟨#[]⟩)), (5, .v (v19)), (8, .v (.slice (some ⟨b9, o10, none⟩) xs.length c)), (9, .v (.int .i64 ((xs.length : Nat) : Int))), (10, .v (.int .i64 (IntKind.i64.wrap ((k : Int) + 1))))], [], [(0, ⟨v19, 9, 1, k + 1, cs ++ [.string (((textA names x11.1) ++ (⟨#[32, 60, 61, 32]⟩ : ByteArray)) ++ (textA names x11.2))]⟩)], 0⟩) (fun _ => by kernel_rfl) fun _ => ?_
    refine g_end (by kernel_rfl) ?_
    refine n_then ?_
    refine g_val 10 (v := .int .i64 (IntKind.i64.wrap ((k : Int) + 1))) (.int .i64 ((k + 1 : Nat) : Int)) (by kernel_rfl) (by rw [wrapN k (by omega)]) ?_
    refine g_fin [0, 4, 5, 8, 9, 10] [] [0] ⟨[(0, .v (.slice N names.length cN)), (4, .v (.string ⟨#[]⟩)), (5, .v (v19)), (8, .v (.slice (some ⟨b9, o10, none⟩) xs.length c)), (9, .v (.int .i64 ((xs.length : Nat) : Int))), (10, .v (.int .i64 ((k + 1 : Nat) : Int)))], [], [(0, ⟨v19, 9, 1, k + 1, cs ++ [.string (((textA names x11.1) ++ (⟨#[32, 60, 61, 32]⟩ : ByteArray)) ++ (textA names x11.2))]⟩)], 0⟩ (by kernel_rfl) ?_
    exact g_again (k + 1) ⟨_, _, rfl, ⟨by omega, by rw [take_succ_eq hx11, List.map_append, List.flatMap_append, hcs]; rfl⟩, (fun _ _ h => (le17 _ _ (le15 _ _ (le5 _ _ h))))⟩ (by omega)
  · replace hc7 := of_decide_eq_false hc7
    refine g_exit ?_
    refine n_then_exit ?_
    refine n_then_exit ?_
    refine n_block_exit ?_
    refine n_then ?_
    refine g_seq ?_
    refine g_seq ?_
    refine g_region ?_
    refine g_pub 0 (by rfl) ?_
    intro MZ AZ cZ le22 hvAZ hnAZ hlAZ hmAZ
    have hvAZ : v = .slice AZ k cZ := hvAZ
    have hnAZ : k ≤ cZ := hnAZ
    have hkk : k = xs.length := by omega
    rw [hkk, List.take_length] at hcs
    have hzl : (xs.map (textP names)).length = k := by simp [hkk]
    have hrowZ : Row (flat chS) 1 MZ AZ (xs.map (textP names)) := row_pub (hcs ▸ Cells_flat (enc := chS) (sz := 1) (fun _ => rfl) _) hzl.symm hmAZ
    refine g_val 5 (v := v) (.slice AZ (xs.map (textP names)).length cZ) (by kernel_rfl) (by rw [hzl]; exact hvAZ) ?_
    refine g_exec 3 [4, 5, 30] [] [] (fun _ => ⟨[(4, .v (.string ⟨#[]⟩)), (5, .v (.slice AZ ((xs.map (textP names)).length) cZ)), (30, .v (.bool ((((xs.map (textP names)).length : Nat) : Int) == 0)))], [], [], 0⟩) (fun _ => by kernel_rfl) fun _ => ?_
    refine g_end (by kernel_rfl) ?_
    refine n_then ?_
    refine g_cond (((((xs.map (textP names)).length : Nat) : Int) == 0)) (by kernel_rfl) (fun hc24 => ?_) (fun hc24 => ?_)
    · replace hc24 := eq_of_beq hc24
      have hx0 : xs.map (textP names) = [] := List.eq_nil_of_length_eq_zero (by omega)
      refine g_seq ?_
      refine g_region ?_
      refine g_exec 1 [4, 5] [] [] (fun _ => ⟨[(4, .v (.string ⟨#[45]⟩)), (5, .v (.slice AZ ((xs.map (textP names)).length) cZ))], [], [], 0⟩) (fun _ => by kernel_rfl) fun _ => ?_
      refine g_end (by kernel_rfl) ?_
      refine n_then ?_
      refine g_ret ?_
      refine n_then_ret ?_
      exact n_post (.string ⟨#[45]⟩) (by kernel_rfl) (by rw [textsA, if_pos (by simpa using hx0)])
    · replace hc24 := ne_of_beq_false hc24
      have hne : xs.map (textP names) ≠ [] := fun e0 => hc24 (by rw [e0]; rfl)
      refine g_skip ?_
      refine n_then ?_
      refine g_seq ?_
      refine g_region ?_
      refine g_exec 1 [4, 31] [] [] (fun _ => ⟨[(4, .v (.string ⟨#[]⟩)), (31, .v (.slice AZ ((xs.map (textP names)).length) cZ))], [], [], 0⟩) (fun _ => by kernel_rfl) fun _ => ?_
      refine g_call (dst := some 32) (g := 52) (args := [.slice AZ ((xs.map (textP names)).length) cZ, .string ⟨#[44, 32]⟩]) (by kernel_rfl) (by kernel_rfl) (fun v _ => v = .string (joinB (xs.map (textP names)) ⟨#[44, 32]⟩)) (by intro w hst; exact joinA_calls hst.sat _ AZ cZ hne (hrowZ.le (fun _ _ h => h)) _ (by rw [hzl]; exact hnAZ) (by rw [hzl]; omega) (join_small hns hxl hrange)) ?_
      rintro _ M27 le28 rfl
      refine g_exec 1 [4] [] [] (fun _ => ⟨[(4, .v (.string (joinB (xs.map (textP names)) ⟨#[44, 32]⟩)))], [], [], 0⟩) (fun _ => by kernel_rfl) fun _ => ?_
      refine g_end (by kernel_rfl) ?_
      refine n_then ?_
      refine g_ret ?_
      exact n_post (.string (joinB (xs.map (textP names)) ⟨#[44, 32]⟩)) (by kernel_rfl) (by rw [textsA, if_neg (by simpa using hne)])
end Go.Ch
