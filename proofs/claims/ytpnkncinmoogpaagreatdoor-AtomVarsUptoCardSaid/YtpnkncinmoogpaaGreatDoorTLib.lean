/- The library's contracts at this program: Itoa, Join. -/
import Derived.Test.YtpnkncinmoogpaaGreatDoorChEngk
import Derived.Test.YtpnkncinmoogpaaGreatDoorTShelfP
import Derived.Test.YtpnkncinmoogpaaGreatDoorChAtomP
import Derived.Shelf.Strconv.Itoa3
import Derived.Shelf.LaysM
import Derived.Shelf.Strings.OnBuilder
import Derived.Test.YtpnkncinmoogpaaGreatDoorProg
set_option linter.unusedVariables false
namespace Go.Ch
open Go Go.Eng Go.Proofs Go.Shelf Go.RowKit Go.Lib Go.Sort
/-- The table of powers lies in the world. -/
def TabW (w : World) : Prop := Lib.TabIs Tryz.prog w "internal/strconv.uint64pow10" .u64 Lib.pow10Tab
theorem TabW.ext {w w' : World} {M M' : Mem} {D : Prop} (h : TabW w) (he : Ext [] w M w' M' D) : TabW w' := by
  unfold TabW Lib.TabIs World.var? at *
  cases hg : Tryz.prog.globalNamed "internal/strconv.uint64pow10" with
  | none => rw [hg] at h; exact h
  | some g =>
    rw [hg] at h
    simp only [Option.bind_some] at h ⊢
    have hlt : g < w.heap.size := by
      rcases Nat.lt_or_ge g w.heap.size with h1 | h1
      · exact h1
      · rw [Array.getElem?_eq_none h1] at h; cases h
    rw [he.keep g hlt (by simp)]; exact h
def itoaB (n : Int) : ByteArray := ⟨(Lib.itoa n).toArray⟩
theorem itoa_calls {M : Mem} {w : World} (hM : Sat M w) (hT : TabW w) (n : Int) (h0 : -9223372036854775808 ≤ n) (h1 : n ≤ 9223372036854775807) : Ct Tryz.prog 50 [.int .i64 n] [] w M (fun v _ => v = .string (itoaB n)) :=
  Calls.mono (Any.strconv_Itoa Tz.itoa n h0 h1 w hT) fun e w' ⟨h, k, os, hw⟩ => ⟨_, M, h, by rw [hw]; exact grow_ext hM k os, rfl⟩
def joinB (xs : List ByteArray) (sep : ByteArray) : ByteArray := ⟨(Lib.join (xs.map (·.data.toList)) sep.data.toList).toArray⟩
theorem join_calls {M : Mem} {w : World} (hM : Sat M w) (xs : List ByteArray) (b o c : Nat) (hne : xs ≠ []) (hrow : Row (flat chS) 1 M (some ⟨b, o, none⟩) xs) (sep : ByteArray) (hcap : xs.length ≤ c) (hN : xs.length ≤ 140737488355328) (hlen : (Lib.join (xs.map (·.data.toList)) sep.data.toList).length ≤ 140737488355328) :
    Ct Tryz.prog 52 [.slice (some ⟨b, o, none⟩) xs.length c, .string sep] [] w M (fun v _ => v = .string (joinB xs sep)) := by
  have hc := row_cells (enc := chS) (sz := 1) (fun _ => rfl) hrow
  have hget : ∀ (j : Nat) x, xs[j]? = some x → M ⟨b, o + j, none⟩ = some (.string x) := fun j x hx => by
    have := flatMap_get (enc := chS) (sz := 1) (fun _ => rfl) hx 0 (.string x) rfl
    rw [Nat.mul_one, Nat.add_zero] at this
    exact hc j _ this
  have hb : b < w.heap.size := by
    obtain ⟨x, hx⟩ : ∃ x, xs[0]? = some x := ⟨_, List.getElem?_eq_getElem (List.length_pos_iff.2 hne)⟩
    exact hM.block (hget 0 x hx)
  exact Calls.mono (Any.strings_Join Tz.join Tz.joinX b o c xs sep w (fun j x hx => hM _ _ (hget j x hx)) hb hN hcap hlen) fun e w' ⟨h, hw⟩ => ⟨_, M, h, below_ext hM hw, rfl⟩
end Go.Ch
