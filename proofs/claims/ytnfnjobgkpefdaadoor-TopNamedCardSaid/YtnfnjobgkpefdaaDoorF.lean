/- one: a told byte at a place: the plain one, and the escaped ones. -/
import Derived.Test.YtnfnjobgkpefdaaDoorE
namespace Go.Proofs.YtnfnjobgkpefdaaDoor
set_option linter.unusedSimpArgs false
set_option linter.unusedVariables false
open Go.RowKit

set_option maxRecDepth 8000 in
set_option maxHeartbeats 3200000 in
theorem one_plain (s : ByteArray) (i : Nat) (c : UInt8) (w : World) (hi : i < s.size) (hg : s[i]'hi = c) (hsz : s.size ≤ 4611686018427387904) (h92 : c.toNat ≠ 92) (h32 : 32 ≤ c.toNat) (h127 : c.toNat < 127) (h34 : c.toNat ≠ 34) :
    Calls Tryd.prog 17 #[.string s, .int .i64 (i : Int), .bool true] w fun e w' => e = .returned (.tuple #[.int .u8 (c.toNat : Int), .int .i64 ((i : Int) + 1), .int .i64 (-1)]) ∧ Below w.heap.size w w' := by
  have hib : (0 : Int) ≤ (i : Int) ∧ (i : Int) < (s.size : Int) := by omega
  have g1 : (i : Int) < (s.size : Int) := by omega
  have e92 : ((c.toNat : Int) != 92) = true := by simpa using (by omega : ¬ (c.toNat : Int) = 92)
  have n92 : ¬ (c.toNat : Int) = 92 := by omega
  have d32 : decide ((c.toNat : Int) < 32) = false := decide_eq_false (by omega)
  have d127 : decide (127 ≤ (c.toNat : Int)) = false := decide_eq_false (by omega)
  have e34 : ((c.toNat : Int) == 34) = false := by simpa using (by omega : ¬ (c.toNat : Int) = 34)
  have w1 : IntKind.i64.wrap ((i : Int) + 1) = (i : Int) + 1 := wrap_in _ (by omega) (by omega)
  go_enter Tryd.func17, Tryd.ntmps17
  go_wp2_with fail
  go_ret3
  exact ⟨rfl, Below.refl _ _⟩

set_option maxRecDepth 8000 in
set_option maxHeartbeats 3200000 in
theorem one_esc (s : ByteArray) (i : Nat) (c : UInt8) (w : World) (hi : i + 1 < s.size) (h0 : s[i]'(by omega) = 92) (h1 : s[i + 1]'hi = c) (hsz : s.size ≤ 4611686018427387904) (hc : c = 92 ∨ c = 34) :
    Calls Tryd.prog 17 #[.string s, .int .i64 (i : Int), .bool true] w fun e w' => e = .returned (.tuple #[.int .u8 (c.toNat : Int), .int .i64 ((i : Int) + 2), .int .i64 (-1)]) ∧ Below w.heap.size w w' := by
  have g1 : (i : Int) < (s.size : Int) := by omega
  have g2 : (i : Int) + 1 < (s.size : Int) := by omega
  have g3 : (0 : Int) ≤ (i : Int) + 1 := by omega
  have g4 : ((i : Int) + 1 == (s.size : Int)) = false := by simpa using (by omega : ¬ (i : Int) + 1 = (s.size : Int))
  have g5 : ¬ (i : Int) + 1 = (s.size : Int) := by omega
  have w1 : IntKind.i64.wrap ((i : Int) + 1) = (i : Int) + 1 := wrap_in _ (by omega) (by omega)
  have w2 : IntKind.i64.wrap ((i : Int) + 1 + 1) = (i : Int) + 2 := by rw [show (i : Int) + 1 + 1 = (i : Int) + 2 by omega]; exact wrap_in _ (by omega) (by omega)
  rcases hc with rfl | rfl
  · go_enter Tryd.func17, Tryd.ntmps17
    go_wp2_with fail
    go_ret3
    exact ⟨by first | rfl | (simp; try omega), Below.refl _ _⟩
  · go_enter Tryd.func17, Tryd.ntmps17
    go_wp2_with fail
    go_ret3
    exact ⟨by first | rfl | (simp; try omega), Below.refl _ _⟩
end Go.Proofs.YtnfnjobgkpefdaaDoor
