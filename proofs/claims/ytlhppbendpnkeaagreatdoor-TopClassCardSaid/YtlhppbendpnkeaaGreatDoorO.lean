/- OnesCount64, Count. -/
import Derived.Test.YtlhppbendpnkeaaGreatDoorN
import Derived.Laws.Bits128
namespace Go.Proofs.YtlhppbendpnkeaaGreatDoor
set_option linter.unusedSimpArgs false
set_option linter.unusedVariables false
open Go.RowKit

theorem q1 (c0 c1 c2 c3 c4 c5 c6 c7 : Nat) (h : c0 < 256) : (c0 + c1 * 256 + c2 * 65536 + c3 * 16777216 + c4 * 4294967296 + c5 * 1099511627776 + c6 * 281474976710656 + c7 * 72057594037927936) / 256 = c1 + c2 * 256 + c3 * 65536 + c4 * 16777216 + c5 * 4294967296 + c6 * 1099511627776 + c7 * 281474976710656 := by omega
theorem q2 (c0 c1 c2 c3 c4 c5 c6 c7 : Nat) (h : c0 + c1 * 256 < 65536) : (c0 + c1 * 256 + c2 * 65536 + c3 * 16777216 + c4 * 4294967296 + c5 * 1099511627776 + c6 * 281474976710656 + c7 * 72057594037927936) / 65536 = c2 + c3 * 256 + c4 * 65536 + c5 * 16777216 + c6 * 4294967296 + c7 * 1099511627776 := by omega
theorem q3 (c0 c1 c2 c3 c4 c5 c6 c7 : Nat) (h : c0 + c1 * 256 + c2 * 65536 + c3 * 16777216 < 4294967296) : (c0 + c1 * 256 + c2 * 65536 + c3 * 16777216 + c4 * 4294967296 + c5 * 1099511627776 + c6 * 281474976710656 + c7 * 72057594037927936) / 4294967296 = c4 + c5 * 256 + c6 * 65536 + c7 * 16777216 := by omega
theorem q4 (c0 c1 c2 c3 c4 c5 c6 c7 : Nat) (h : c0 < 128) : (c0 + c1 * 256 + c2 * 65536 + c3 * 16777216 + c4 * 4294967296 + c5 * 1099511627776 + c6 * 281474976710656 + c7 * 72057594037927936) % 128 = c0 := by omega
theorem q5 (c0 c1 c2 c3 c4 c5 c6 c7 : Nat) (h0 : c0 ≤ 64) (h1 : c1 ≤ 64) (h2 : c2 ≤ 64) (h3 : c3 ≤ 64) (h4 : c4 ≤ 64) (h5 : c5 ≤ 64) (h6 : c6 ≤ 64) (h7 : c7 ≤ 64) : (c0 + c1 * 256 + c2 * 65536 + c3 * 16777216 + c4 * 4294967296 + c5 * 1099511627776 + c6 * 281474976710656 + c7 * 72057594037927936) < 9223372036854775808 := by omega
theorem u64_add (a b : Nat) (h : a + b < 18446744073709551616) : IntKind.u64.wrap ((a : Int) + (b : Int)) = ((a + b : Nat) : Int) := by
  rw [IntWalk.u64_in _ ⟨by omega, by omega⟩]; omega
theorem u64_tail (x m : Nat) (h : x + x / m < 18446744073709551616) : IntKind.u64.wrap ((x : Int) + (x : Int) / (m : Int)) = ((x + x / m : Nat) : Int) := by
  have e : (x : Int) / (m : Int) = ((x / m : Nat) : Int) := by push_cast; rfl
  rw [e]; exact u64_add _ _ h
theorem u64_headd (x m : Nat) (h : x / m + x < 18446744073709551616) : IntKind.u64.wrap ((x : Int) / (m : Int) + (x : Int)) = ((x / m + x : Nat) : Int) := by
  have e : (x : Int) / (m : Int) = ((x / m : Nat) : Int) := by push_cast; rfl
  rw [e]; exact u64_add _ _ h

/-- What the last three steps make of x3. -/
theorem tail (g : Nat → Bool) : ∃ y z v : Nat, x3 g + x3 g / 256 = y ∧ y + y / 65536 = z ∧ z + z / 4294967296 = v ∧ y < 9223372036854775808 ∧ z < 9223372036854775808 ∧ v < 9223372036854775808 ∧ v % 128 = cntN g 64 := by
  obtain ⟨c0, c1, c2, c3, c4, c5, c6, c7, h0, h1, h2, h3, h4, h5, h6, h7, hx, hc⟩ := x3_sum g
  have p2 : (c0 + c1) + (c1 + c2) * 256 < 65536 := by clear hx hc; omega
  have p3 : (c0 + c1 + c2 + c3) + (c1 + c2 + c3 + c4) * 256 + (c2 + c3 + c4 + c5) * 65536 + (c3 + c4 + c5 + c6) * 16777216 < 4294967296 := by clear hx hc p2; omega
  have hy : x3 g + x3 g / 256 = (c0 + c1) + (c1 + c2) * 256 + (c2 + c3) * 65536 + (c3 + c4) * 16777216 + (c4 + c5) * 4294967296 + (c5 + c6) * 1099511627776 + (c6 + c7) * 281474976710656 + c7 * 72057594037927936 := by
    rw [hx, q1 _ _ _ _ _ _ _ _ (Nat.lt_of_le_of_lt h0 (by decide))]
    clear h0 h1 h2 h3 h4 h5 h6 h7 p2 p3 hx hc
    omega
  have hz : ((c0 + c1) + (c1 + c2) * 256 + (c2 + c3) * 65536 + (c3 + c4) * 16777216 + (c4 + c5) * 4294967296 + (c5 + c6) * 1099511627776 + (c6 + c7) * 281474976710656 + c7 * 72057594037927936) + ((c0 + c1) + (c1 + c2) * 256 + (c2 + c3) * 65536 + (c3 + c4) * 16777216 + (c4 + c5) * 4294967296 + (c5 + c6) * 1099511627776 + (c6 + c7) * 281474976710656 + c7 * 72057594037927936) / 65536 = (c0 + c1 + c2 + c3) + (c1 + c2 + c3 + c4) * 256 + (c2 + c3 + c4 + c5) * 65536 + (c3 + c4 + c5 + c6) * 16777216 + (c4 + c5 + c6 + c7) * 4294967296 + (c5 + c6 + c7) * 1099511627776 + (c6 + c7) * 281474976710656 + c7 * 72057594037927936 := by
    rw [q2 _ _ _ _ _ _ _ _ p2]
    clear h0 h1 h2 h3 h4 h5 h6 h7 p2 p3 hx hc hy
    omega
  have hv : ((c0 + c1 + c2 + c3) + (c1 + c2 + c3 + c4) * 256 + (c2 + c3 + c4 + c5) * 65536 + (c3 + c4 + c5 + c6) * 16777216 + (c4 + c5 + c6 + c7) * 4294967296 + (c5 + c6 + c7) * 1099511627776 + (c6 + c7) * 281474976710656 + c7 * 72057594037927936) + ((c0 + c1 + c2 + c3) + (c1 + c2 + c3 + c4) * 256 + (c2 + c3 + c4 + c5) * 65536 + (c3 + c4 + c5 + c6) * 16777216 + (c4 + c5 + c6 + c7) * 4294967296 + (c5 + c6 + c7) * 1099511627776 + (c6 + c7) * 281474976710656 + c7 * 72057594037927936) / 4294967296 = (c0 + c1 + c2 + c3 + c4 + c5 + c6 + c7) + (c1 + c2 + c3 + c4 + c5 + c6 + c7) * 256 + (c2 + c3 + c4 + c5 + c6 + c7) * 65536 + (c3 + c4 + c5 + c6 + c7) * 16777216 + (c4 + c5 + c6 + c7) * 4294967296 + (c5 + c6 + c7) * 1099511627776 + (c6 + c7) * 281474976710656 + c7 * 72057594037927936 := by
    rw [q3 _ _ _ _ _ _ _ _ p3]
    clear h0 h1 h2 h3 h4 h5 h6 h7 p2 p3 hx hc hy hz
    omega
  refine ⟨_, _, _, hy, hz, hv, ?_, ?_, ?_, ?_⟩
  · clear hx hc hy hz hv p2 p3
    exact q5 _ _ _ _ _ _ _ _ (by omega) (by omega) (by omega) (by omega) (by omega) (by omega) (by omega) (by omega)
  · clear hx hc hy hz hv p2 p3
    exact q5 _ _ _ _ _ _ _ _ (by omega) (by omega) (by omega) (by omega) (by omega) (by omega) (by omega) (by omega)
  · clear hx hc hy hz hv p2 p3
    exact q5 _ _ _ _ _ _ _ _ (by omega) (by omega) (by omega) (by omega) (by omega) (by omega) (by omega) (by omega)
  · rw [hc]
    clear hx hc hy hz hv p2 p3
    exact q4 _ _ _ _ _ _ _ _ (by omega)

theorem and_div (x m k : Nat) (h : x / m < 18446744073709551616) (hk : k < 18446744073709551616) : bits .and .u64 ((x : Int) / (m : Int)) (k : Int) = ((x / m &&& k : Nat) : Int) := by
  have e : (x : Int) / (m : Int) = ((x / m : Nat) : Int) := by push_cast; rfl
  rw [e]; exact u64_and_nat _ _ h hk

theorem div_lt64 {x m : Nat} (h : x < 18446744073709551616) : x / m < 18446744073709551616 := Nat.lt_of_le_of_lt (Nat.div_le_self _ _) h
theorem x1_le2 (g : Nat → Bool) : x2 g / 16 + x2 g < 18446744073709551616 := by
  have := x2_lt g
  omega
theorem f5 (v c : Nat) (h : v % 128 = c) : bits .and .i64 (v : Int) 127 = (c : Int) := by rw [i64_and127]; omega

set_option maxHeartbeats 400000 in
theorem Ones_any (g : Nat → Bool) (w : World) :
    Calls Tryz.prog 30 #[.int .u64 (wordN g 64 : Int)] w fun e w' => e = .returned (.int .i64 (cntN g 64 : Int)) ∧ Below w.heap.size w w' := by
  have hl : wordN g 64 < 18446744073709551616 := wordN_lt g 64
  obtain ⟨y, z, v, hy, hz, hv, ly, lz, lv, hc⟩ := tail g
  have t1 := u64_tail (x3 g) 256 (by rw [hy]; exact Nat.lt_trans ly (by decide))
  have t2 := u64_tail y 65536 (by rw [hz]; exact Nat.lt_trans lz (by decide))
  have t3 := u64_tail z 4294967296 (by rw [hv]; exact Nat.lt_trans lv (by decide))
  rw [hy] at t1
  rw [hz] at t2
  rw [hv] at t3
  have t4 : IntKind.i64.wrap (v : Int) = (v : Int) := wrap_in _ (by omega) (by omega)
  have t5 := f5 v _ hc
  have e1 := and_div (wordN g 64) 2 6148914691236517205 (div_lt64 hl) (by decide)
  have e2 := u64_and_nat (wordN g 64) 6148914691236517205 hl (by decide)
  rw [step1a] at e1
  rw [step1b] at e2
  have e3 := u64_add (a1 g) (b1 g) (by rw [step1]; exact x1_lt g)
  rw [step1] at e3
  have e4 := and_div (x1 g) 4 3689348814741910323 (div_lt64 (x1_lt g)) (by decide)
  have e5 := u64_and_nat (x1 g) 3689348814741910323 (x1_lt g) (by decide)
  rw [step2a] at e4
  rw [step2b] at e5
  have h2 : x2 g < 18446744073709551616 := Nat.lt_of_le_of_lt (x2_lt g) (by decide)
  have e6 := u64_add (a2 g) (b2 g) (by rw [step2]; exact h2)
  rw [step2] at e6
  have e7 := u64_headd (x2 g) 16 (x1_le2 g)
  have e8 := u64_and_nat (x2 g / 16 + x2 g) 1085102592571150095 (x1_le2 g) (by decide)
  rw [step3] at e8
  clear hy hz hv ly lz lv hc hl h2
  generalize wordN g 64 = x at *
  generalize x1 g = x1 at *
  generalize x2 g = x2 at *
  generalize x2 / 16 + x2 = x2' at *
  generalize x3 g = x3 at *
  generalize a1 g = a1 at *
  generalize b1 g = b1 at *
  generalize a2 g = a2 at *
  generalize b2 g = b2 at *
  generalize cntN g 64 = c at *
  simp only [Int.cast_ofNat_Int] at e1 e2 e4 e5 e7 e8 t1 t2 t3
  go_enter Tryz.func30, Tryz.ntmps30
  go_wp2_with fail
  go_ret
  exact ⟨rfl, Below.refl _ _⟩
end Go.Proofs.YtlhppbendpnkeaaGreatDoor
