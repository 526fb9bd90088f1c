/- Plain Lean: digits and texts of chapter 10's references. -/
import Derived.Test.YtpnkncinmoogpaaGreatDoorPlainS
import Derived.Test.YtpnkncinmoogpaaGreatDoorPlainL
import Derived.Lib.ItoaNum
import Derived.Lib.Join
set_option linter.unusedVariables false
namespace Go.Ch
open Go Go.Eng
theorem ba_ext {a b : ByteArray} (h : a.data.toList = b.data.toList) : a = b := by
  cases a; cases b; congr 1; exact Array.toList_inj.1 h
theorem loop_eq (bs : ByteArray) : ∀ (d i : Nat) (r : List UInt8), i + d = bs.size → ByteArray.toList.loop bs i r = r.reverse ++ bs.data.toList.drop i := by
  intro d
  induction d with
  | zero =>
    intro i r h
    rw [ByteArray.toList.loop.eq_1, if_neg (by omega), List.drop_of_length_le (by show bs.size ≤ i; omega), List.append_nil]
  | succ d ih =>
    intro i r h
    have hlt : i < bs.data.toList.length := by show i < bs.size; omega
    rw [ByteArray.toList.loop.eq_1, if_pos (by omega), ih (i + 1) _ (by omega), List.drop_eq_getElem_cons hlt, List.reverse_cons, List.append_assoc]
    have e : bs.get! i = bs.data.toList[i] := by
      have h' : i < bs.data.size := hlt
      show bs.data[i]! = _
      rw [getElem!_pos bs.data i h']; simp
    rw [e]; rfl
theorem ba_toList (bs : ByteArray) : bs.toList = bs.data.toList := by
  unfold ByteArray.toList
  rw [loop_eq bs bs.size 0 [] (by omega)]; simp
theorem ba_app (a b : ByteArray) : (a ++ b).data.toList = a.data.toList ++ b.data.toList := by rw [ByteArray.data_append]; simp
theorem ba_size (a : ByteArray) : a.size = a.data.toList.length := rfl
theorem ba_size_app (a b : ByteArray) : (a ++ b).size = a.size + b.size := by rw [ba_size, ba_app, List.length_append]; rfl
theorem bytesOf_one (x : Int) : (bytesOf [x]).data.toList = [UInt8.ofNat x.toNat] := rfl
theorem digits_l1 : ∀ (j n : Nat) (s : ByteArray), n < 10 ^ (j + 1) → n ≤ 9223372036854775807 → j + s.size < 4611686018427387904 → ∀ q, j < q →
    ∃ (d : Nat) (s' : ByteArray), ref07_digits_l1 q (n : Int) s = some ((d : Int), s') ∧ d ≤ 9 ∧ s'.size ≤ s.size + j ∧ UInt8.ofNat (48 + d) :: s'.data.toList = Lib.decDigits n ++ s.data.toList := by
  intro j
  induction j with
  | zero =>
    intro n s hn hb hs q hq
    obtain ⟨q, rfl⟩ : ∃ m, q = m + 1 := ⟨q - 1, by omega⟩
    refine ⟨n, s, by rw [ref07_digits_l1, if_neg (by omega)], by omega, by omega, ?_⟩
    rw [Lib.decDigits, dif_pos (by omega)]; rfl
  | succ j ih =>
    intro n s hn hb hs q hq
    obtain ⟨q, rfl⟩ : ∃ m, q = m + 1 := ⟨q - 1, by omega⟩
    by_cases h9 : n < 10
    · refine ⟨n, s, by rw [ref07_digits_l1, if_neg (by omega)], by omega, by omega, ?_⟩
      rw [Lib.decDigits, dif_pos (by omega)]; rfl
    · have e1 : Int.tmod (n : Int) 10 = ((n % 10 : Nat) : Int) := by rw [Int.tmod_eq_emod_of_nonneg (by omega)]; omega
      have e2 : Int.tdiv (n : Int) 10 = ((n / 10 : Nat) : Int) := by rw [Int.tdiv_eq_ediv_of_nonneg (by omega)]; omega
      have e3 : IntKind.u8.wrap (IntKind.u64.wrap (48 + Int.tmod (n : Int) 10)) = ((48 + n % 10 : Nat) : Int) := by
        rw [e1, u64_in _ (by omega) (by omega), IntWalk.u8_in _ (by omega)]; omega
      have hsz : (bytesOf [((48 + n % 10 : Nat) : Int)]).size = 1 := rfl
      have hc : cat (bytesOf [((48 + n % 10 : Nat) : Int)]) s = some (bytesOf [((48 + n % 10 : Nat) : Int)] ++ s) := cat_ok (by rw [hsz]; omega)
      have hp : n / 10 < 10 ^ (j + 1) := by
        have : (10 : Nat) ^ (j + 1 + 1) = 10 ^ (j + 1) * 10 := Nat.pow_succ ..
        omega
      obtain ⟨d, s', g1, g2, g3, g4⟩ := ih (n / 10) (bytesOf [((48 + n % 10 : Nat) : Int)] ++ s) hp (by omega) (by rw [ba_size_app, hsz]; omega) q (by omega)
      refine ⟨d, s', ?_, g2, by rw [ba_size_app, hsz] at g3; omega, ?_⟩
      · rw [ref07_digits_l1, if_pos (by omega), e3, hc, Option.bind_some, e2, u64_in _ (by omega) (by omega)]; exact g1
      · rw [g4, ba_app, bytesOf_one]
        conv => rhs; rw [Lib.decDigits, dif_neg h9]
        simp only [Int.toNat_natCast, List.append_assoc, List.cons_append, List.nil_append]
theorem digits_eq (k n : Nat) (hn : n ≤ 9223372036854775807) (hk : 20 < k) : ∃ s, ref07_digits k (n : Int) = some s ∧ s.data.toList = Lib.decDigits n ∧ s.size ≤ 20 := by
  obtain ⟨d, s', g1, g2, g3, g4⟩ := digits_l1 19 n (⟨#[]⟩ : ByteArray) (by omega) hn (by simp [ByteArray.size]) k (by omega)
  have hsz : (bytesOf [((48 + d : Nat) : Int)]).size = 1 := rfl
  have hs0 : (⟨#[]⟩ : ByteArray).size = 0 := rfl
  have e3 : IntKind.u8.wrap (IntKind.u64.wrap (48 + (d : Int))) = ((48 + d : Nat) : Int) := by
    rw [u64_in _ (by omega) (by omega), IntWalk.u8_in _ (by omega)]; omega
  refine ⟨bytesOf [((48 + d : Nat) : Int)] ++ s', ?_, ?_, by rw [ba_size_app, hsz]; omega⟩
  · unfold ref07_digits
    rw [g1, Option.bind_some]
    simp only [e3]
    rw [cat_ok (by rw [hsz]; omega), Option.bind_some]
  · rw [ba_app, bytesOf_one, Int.toNat_natCast]; simpa using g4
theorem Name_eq (k : Nat) (a : Int) (h0 : 0 ≤ a) (h1 : a ≤ 9223372036854775807) (hk : 20 < k) : ∃ s, ref07_Name k a = some s ∧ s = ⟨(Lib.itoa a).toArray⟩ ∧ s.size ≤ 20 := by
  obtain ⟨n, rfl⟩ := Int.eq_ofNat_of_zero_le h0
  obtain ⟨s, g1, g2, g3⟩ := digits_eq k n (by omega) hk
  refine ⟨s, ?_, ?_, g3⟩
  · unfold ref07_Name
    rw [if_neg (by omega), u64_in _ (by omega) (by omega), g1, Option.bind_some]
  · refine ba_ext ?_
    rw [g2]; unfold Lib.itoa; rw [if_neg (by omega)]; simp
end Go.Ch
