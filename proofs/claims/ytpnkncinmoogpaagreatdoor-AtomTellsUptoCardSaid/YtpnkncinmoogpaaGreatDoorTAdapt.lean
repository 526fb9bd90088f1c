import Derived.Test.YtpnkncinmoogpaaGreatDoorTatomG
import Derived.Test.YtpnkncinmoogpaaGreatDoorTref
set_option linter.unusedVariables false
namespace Go.Ch
open Go Go.Eng Go.Proofs
def pointP (p : Int) : Option Int := some (pointA p)
theorem pointP_calls {M : Mem} {w : World} (hM : Sat M w) (p : Int) {r : Int} (h : pointP p = some r) : Ct Tryz.prog 23 [.int .i64 p] [] w M (fun v _ => v = .int .i64 r) := by
  obtain rfl := some_inj h; exact point_calls hM p
def pointOfP (p : Int) : Option Int := some (ptOf p)
theorem pointOfP_calls {M : Mem} {w : World} (hM : Sat M w) (p : Int) {r : Int} (h : pointOfP p = some r) : Ct Tryz.prog 25 [.int .i64 p] [] w M (fun v _ => v = .int .i64 r) := by
  obtain rfl := some_inj h; exact pointOf_calls hM p
def isPointP (p : Int) : Option Bool := some (isPt p)
theorem isPointP_calls {M : Mem} {w : World} (hM : Sat M w) (p : Int) {r : Bool} (h : isPointP p = some r) : Ct Tryz.prog 27 [.int .i64 p] [] w M (fun v _ => v = .bool r) := by
  obtain rfl := some_inj h; exact isPoint_calls hM p
def normP (l : List (Int × Int)) : Option (List (Int × Int)) := if l.length ≤ 274877906944 then some (normL l) else none
theorem normP_calls {M : Mem} {w : World} (hM : Sat M w) (l : List (Int × Int)) (A : Option Addr) (c : Nat) (hA : SlF (fl chP) 2 M A l c) {r : List (Int × Int)} (h : normP l = some r) : Ct Tryz.prog 17 [.slice A l.length c] [] w M (fun v M' => ∃ (A1 : Option Addr) (c2 : Nat), v = .slice A1 r.length c2 ∧ SlF (fl chP) 2 M' A1 r c2) := by
  unfold normP at h
  split at h
  · rename_i hl; obtain rfl := some_inj h; exact norm_calls hM l A c hA.2 (Nat.le_trans hl (by decide))
  · cases h
def varsP (l : List (Int × Int)) : Option (List Int) := if l.length ≤ 274877906944 then some (varsL l) else none
theorem varsP_calls {M : Mem} {w : World} (hM : Sat M w) (l : List (Int × Int)) (A : Option Addr) (c : Nat) (hA : SlF (fl chP) 2 M A l c) {r : List Int} (h : varsP l = some r) : Ct Tryz.prog 12 [.slice A l.length c] [] w M (fun v M' => ∃ (A1 : Option Addr) (c2 : Nat), v = .slice A1 r.length c2 ∧ SlF (fl chI) 1 M' A1 r c2) := by
  unfold varsP at h
  split at h
  · rename_i hl; obtain rfl := some_inj h; exact vars_calls hM l A c hA.2 hl
  · cases h
def pointsP (l : List (Int × Int)) : Option (List Int) := if l.length ≤ 274877906944 then some (pointsL l) else none
theorem pointsP_calls {M : Mem} {w : World} (hM : Sat M w) (l : List (Int × Int)) (A : Option Addr) (c : Nat) (hA : SlF (fl chP) 2 M A l c) {r : List Int} (h : pointsP l = some r) : Ct Tryz.prog 14 [.slice A l.length c] [] w M (fun v M' => ∃ (A1 : Option Addr) (c2 : Nat), v = .slice A1 r.length c2 ∧ SlF (fl chI) 1 M' A1 r c2) := by
  unfold pointsP at h
  split at h
  · rename_i hl; obtain rfl := some_inj h; exact points_calls hM l A c hA.2 hl
  · cases h
def shiftP (l : List (Int × Int)) (n : Int) : Option (List (Int × Int)) := if l.length ≤ 274877906944 then some (l.map fun p => (shiftA n p.1, shiftA n p.2)) else none
theorem shiftP_calls {M : Mem} {w : World} (hM : Sat M w) (l : List (Int × Int)) (A : Option Addr) (c : Nat) (hA : SlF (fl chP) 2 M A l c) (n : Int) {r : List (Int × Int)} (h : shiftP l n = some r) : Ct Tryz.prog 19 [.slice A l.length c, .int .i64 n] [] w M (fun v M' => ∃ (A1 : Option Addr) (c2 : Nat), v = .slice A1 r.length c2 ∧ SlF (fl chP) 2 M' A1 r c2) := by
  unfold shiftP at h
  split at h
  · rename_i hl; obtain rfl := some_inj h; exact shift_calls hM l A c hA.2 hl n
  · cases h
def renameP (l : List (Int × Int)) (xs ys : List Int) : Option (List (Int × Int)) := if l.length ≤ 274877906944 ∧ xs.length ≤ 1099511627776 then some (l.map fun p => (renA xs ys p.1, renA xs ys p.2)) else none
theorem renameP_calls {M : Mem} {w : World} (hM : Sat M w) (l : List (Int × Int)) (A : Option Addr) (c : Nat) (hA : SlF (fl chP) 2 M A l c) (xs : List Int) (A1 : Option Addr) (c1 : Nat) (hA1 : SlF (fl chI) 1 M A1 xs c1) (ys : List Int) (A2 : Option Addr) (c2 : Nat) (hA2 : SlF (fl chI) 1 M A2 ys c2) {r : List (Int × Int)} (h : renameP l xs ys = some r) : Ct Tryz.prog 21 [.slice A l.length c, .slice A1 xs.length c1, .slice A2 ys.length c2] [] w M (fun v M' => ∃ (A1 : Option Addr) (c2 : Nat), v = .slice A1 r.length c2 ∧ SlF (fl chP) 2 M' A1 r c2) := by
  unfold renameP at h
  split at h
  · rename_i hl; obtain rfl := some_inj h; exact rename_calls hM l A c hA.2 hl.1 xs ys A1 A2 c1 c2 hA1.2 hA2.2 hl.2
  · cases h
def textP1 (names : List ByteArray) (a : Int) : Option ByteArray := if names.length ≤ 1048576 ∧ (∀ x ∈ names, x.size ≤ 1048576) ∧ -9223372036854775808 ≤ a ∧ a ≤ 9223372036854775807 then some (textA names a) else none
theorem textP1_calls {M : Mem} {w : World} (hM : Sat M w) (hT : TabW w) (names : List ByteArray) (A : Option Addr) (c : Nat) (hA : SlF (fl chS) 1 M A names c) (a : Int) {r : ByteArray} (h : textP1 names a = some r) : Ct Tryz.prog 28 [.slice A names.length c, .int .i64 a] [] w M (fun v _ => v = .string r) := by
  unfold textP1 at h
  split at h
  · rename_i hl; obtain rfl := some_inj h; exact text_calls hM hT names A c hA.2 hl.1 hl.2.1 a hl.2.2.1 hl.2.2.2
  · cases h
def textsP1 (names : List ByteArray) (l : List (Int × Int)) : Option ByteArray := if names.length ≤ 1048576 ∧ (∀ x ∈ names, x.size ≤ 1048576) ∧ l.length ≤ 1048576 ∧ (∀ p ∈ l, (-9223372036854775808 ≤ p.1 ∧ p.1 ≤ 9223372036854775807) ∧ (-9223372036854775808 ≤ p.2 ∧ p.2 ≤ 9223372036854775807)) then some (textsA names l) else none
theorem textsP1_calls {M : Mem} {w : World} (hM : Sat M w) (hT : TabW w) (names : List ByteArray) (A : Option Addr) (c : Nat) (hA : SlF (fl chS) 1 M A names c) (l : List (Int × Int)) (A1 : Option Addr) (c1 : Nat) (hA1 : SlF (fl chP) 2 M A1 l c1) {r : ByteArray} (h : textsP1 names l = some r) : Ct Tryz.prog 30 [.slice A names.length c, .slice A1 l.length c1] [] w M (fun v _ => v = .string r) := by
  unfold textsP1 at h
  split at h
  · rename_i hl; obtain rfl := some_inj h; exact texts_calls hM hT names A c hA.2 hl.1 hl.2.1 l A1 c1 hA1.2 hl.2.2.1 hl.2.2.2
  · cases h
def exP : Option Bool := some true
theorem exP_calls {M : Mem} {w : World} (hM : Sat M w) (hT : TabW w) {r : Bool} (h : exP = some r) : Ct Tryz.prog 9 [] [] w M (fun v _ => v = .bool r) := by
  obtain rfl := some_inj h; exact examples_calls hM hT
end Go.Ch
