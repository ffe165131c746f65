/- The closures that find is asked with. -/
import Derived.Test.YtbigolappdlhcaaP
namespace Go.Proofs.Ytbigolappdlhcaa
set_option linter.unusedSimpArgs false
set_option linter.unusedVariables false
open Go.RowKit

def isName (nm : ByteArray) : Nat → Bool
  | 0 => decide (nm = ⟨#[113, 117, 105, 101, 116]⟩) || decide (nm = ⟨#[115, 105, 108, 101, 110, 116]⟩)
  | 1 => decide (nm = ⟨#[114, 101, 103, 101, 120, 112, 45, 101, 120, 116, 101, 110, 100, 101, 100]⟩)
  | 2 => decide (nm = ⟨#[115, 101, 112, 97, 114, 97, 116, 101]⟩)
  | 3 => decide (nm = ⟨#[101, 120, 112, 114, 101, 115, 115, 105, 111, 110]⟩)
  | 4 => decide (nm = ⟨#[102, 105, 108, 101]⟩)
  | _ => decide (nm = ⟨#[105, 110, 45, 112, 108, 97, 99, 101]⟩)
def isLetter (b : UInt8) : Nat → Bool
  | 0 => [110].contains b
  | 1 => [69, 114].contains b
  | 2 => [115].contains b
  | 3 => [101].contains b
  | 4 => [102].contains b
  | _ => [105].contains b

theorem contains_one (x y : ByteArray) : Lib.containsS [y] x = decide (x = y) := by
  rw [Bool.eq_iff_iff, Lib.containsS_iff]; simp
theorem contains_two (x y z : ByteArray) : Lib.containsS [y, z] x = (decide (x = y) || decide (x = z)) := by
  rw [Bool.eq_iff_iff, Lib.containsS_iff]; simp

set_option maxHeartbeats 3200000 in
theorem name_is (nm : ByteArray) (B h k : Nat) (hk : k < 6) (w : World) (ho : OptN w h) (hc : w.cell? ⟨B, 0, none⟩ = some (.string nm)) :
    Calls Try.prog 46 (#[optV h k] ++ #[.pointer (some ⟨B, 0, none⟩)]) w fun e w' => e = .returned (.bool (isName nm k)) ∧ Below w.heap.size w w' := by
  have HO := Lib.hid ho
  have e0 : ∀ o, (w.alloc o).cell? ⟨B, 0, none⟩ = some (.string nm) := fun o => bl_cell (bl_alloc w o) hc
  clear ho hc
  rcases (show k = 0 ∨ k = 1 ∨ k = 2 ∨ k = 3 ∨ k = 4 ∨ k = 5 by omega) with rfl | rfl | rfl | rfl | rfl | rfl
  · have hcs : Hid (∀ o j, j < [(⟨#[113, 117, 105, 101, 116]⟩ : ByteArray), (⟨#[115, 105, 108, 101, 110, 116]⟩ : ByteArray)].length → (w.alloc o).cell? ⟨h, 0 + j, none⟩ = some (.string ([(⟨#[113, 117, 105, 101, 116]⟩ : ByteArray), (⟨#[115, 105, 108, 101, 110, 116]⟩ : ByteArray)].getD j ByteArray.empty))) := by
      intro o j hj
      rcases (show j = 0 ∨ j = 1 by simp at hj; omega) with rfl | rfl
      · exact bl_cell (bl_alloc w _) (blk_at HO.out.n0 0 rfl).1
      · exact bl_cell (bl_alloc w _) (blk_at HO.out.n0 1 rfl).1
    simp only [optV]
    go_enter Try.func46, Try.ntmps46
    go_wp2_with fail
    refine (Try.slices_Contains_string _ 0 2 2 [(⟨#[113, 117, 105, 101, 116]⟩ : ByteArray), (⟨#[115, 105, 108, 101, 110, 116]⟩ : ByteArray)] nm _ (by simp) (by omega) (hcs.out _)).mono ?_
    rintro e w1 ⟨rfl, hw⟩
    rw [hw]
    clear hw
    go_wp2_with fail
    go_ret
    exact ⟨ret_bool (contains_two _ _ _), bl_alloc w _⟩
  · have hcs : Hid (∀ o j, j < [(⟨#[114, 101, 103, 101, 120, 112, 45, 101, 120, 116, 101, 110, 100, 101, 100]⟩ : ByteArray)].length → (w.alloc o).cell? ⟨h + 1, 0 + j, none⟩ = some (.string ([(⟨#[114, 101, 103, 101, 120, 112, 45, 101, 120, 116, 101, 110, 100, 101, 100]⟩ : ByteArray)].getD j ByteArray.empty))) := by
      intro o j hj
      obtain rfl : j = 0 := by simp at hj; omega
      exact bl_cell (bl_alloc w _) (blk_at HO.out.n1 0 rfl).1
    simp only [optV]
    go_enter Try.func46, Try.ntmps46
    go_wp2_with fail
    refine (Try.slices_Contains_string _ 0 1 1 [(⟨#[114, 101, 103, 101, 120, 112, 45, 101, 120, 116, 101, 110, 100, 101, 100]⟩ : ByteArray)] nm _ (by simp) (by omega) (hcs.out _)).mono ?_
    rintro e w1 ⟨rfl, hw⟩
    rw [hw]
    clear hw
    go_wp2_with fail
    go_ret
    exact ⟨ret_bool (contains_one _ _), bl_alloc w _⟩
  · have hcs : Hid (∀ o j, j < [(⟨#[115, 101, 112, 97, 114, 97, 116, 101]⟩ : ByteArray)].length → (w.alloc o).cell? ⟨h + 1 + 1, 0 + j, none⟩ = some (.string ([(⟨#[115, 101, 112, 97, 114, 97, 116, 101]⟩ : ByteArray)].getD j ByteArray.empty))) := by
      intro o j hj
      obtain rfl : j = 0 := by simp at hj; omega
      exact bl_cell (bl_alloc w _) (blk_at HO.out.n2 0 rfl).1
    simp only [optV]
    go_enter Try.func46, Try.ntmps46
    go_wp2_with fail
    refine (Try.slices_Contains_string _ 0 1 1 [(⟨#[115, 101, 112, 97, 114, 97, 116, 101]⟩ : ByteArray)] nm _ (by simp) (by omega) (hcs.out _)).mono ?_
    rintro e w1 ⟨rfl, hw⟩
    rw [hw]
    clear hw
    go_wp2_with fail
    go_ret
    exact ⟨ret_bool (contains_one _ _), bl_alloc w _⟩
  · have hcs : Hid (∀ o j, j < [(⟨#[101, 120, 112, 114, 101, 115, 115, 105, 111, 110]⟩ : ByteArray)].length → (w.alloc o).cell? ⟨h + 1 + 1 + 1, 0 + j, none⟩ = some (.string ([(⟨#[101, 120, 112, 114, 101, 115, 115, 105, 111, 110]⟩ : ByteArray)].getD j ByteArray.empty))) := by
      intro o j hj
      obtain rfl : j = 0 := by simp at hj; omega
      exact bl_cell (bl_alloc w _) (blk_at HO.out.n3 0 rfl).1
    simp only [optV]
    go_enter Try.func46, Try.ntmps46
    go_wp2_with fail
    refine (Try.slices_Contains_string _ 0 1 1 [(⟨#[101, 120, 112, 114, 101, 115, 115, 105, 111, 110]⟩ : ByteArray)] nm _ (by simp) (by omega) (hcs.out _)).mono ?_
    rintro e w1 ⟨rfl, hw⟩
    rw [hw]
    clear hw
    go_wp2_with fail
    go_ret
    exact ⟨ret_bool (contains_one _ _), bl_alloc w _⟩
  · have hcs : Hid (∀ o j, j < [(⟨#[102, 105, 108, 101]⟩ : ByteArray)].length → (w.alloc o).cell? ⟨h + 1 + 1 + 1 + 1, 0 + j, none⟩ = some (.string ([(⟨#[102, 105, 108, 101]⟩ : ByteArray)].getD j ByteArray.empty))) := by
      intro o j hj
      obtain rfl : j = 0 := by simp at hj; omega
      exact bl_cell (bl_alloc w _) (blk_at HO.out.n4 0 rfl).1
    simp only [optV]
    go_enter Try.func46, Try.ntmps46
    go_wp2_with fail
    refine (Try.slices_Contains_string _ 0 1 1 [(⟨#[102, 105, 108, 101]⟩ : ByteArray)] nm _ (by simp) (by omega) (hcs.out _)).mono ?_
    rintro e w1 ⟨rfl, hw⟩
    rw [hw]
    clear hw
    go_wp2_with fail
    go_ret
    exact ⟨ret_bool (contains_one _ _), bl_alloc w _⟩
  · have hcs : Hid (∀ o j, j < [(⟨#[105, 110, 45, 112, 108, 97, 99, 101]⟩ : ByteArray)].length → (w.alloc o).cell? ⟨h + 1 + 1 + 1 + 1 + 1, 0 + j, none⟩ = some (.string ([(⟨#[105, 110, 45, 112, 108, 97, 99, 101]⟩ : ByteArray)].getD j ByteArray.empty))) := by
      intro o j hj
      obtain rfl : j = 0 := by simp at hj; omega
      exact bl_cell (bl_alloc w _) (blk_at HO.out.n5 0 rfl).1
    simp only [optV]
    go_enter Try.func46, Try.ntmps46
    go_wp2_with fail
    refine (Try.slices_Contains_string _ 0 1 1 [(⟨#[105, 110, 45, 112, 108, 97, 99, 101]⟩ : ByteArray)] nm _ (by simp) (by omega) (hcs.out _)).mono ?_
    rintro e w1 ⟨rfl, hw⟩
    rw [hw]
    clear hw
    go_wp2_with fail
    go_ret
    exact ⟨ret_bool (contains_one _ _), bl_alloc w _⟩

theorem letter_idx (l : List UInt8) (b : UInt8) (c : ByteArray) (hc : c.data.toList = l) : decide (0 ≤ Lib.indexByte c.data.toList ((b.toNat : Int)).toNat.toUInt8) = l.contains b := by
  rw [show ((b.toNat : Int)).toNat.toUInt8 = b by simp, hc, Lib.contains_iff_indexByte]

set_option maxHeartbeats 3200000 in
theorem letter_is (s : ByteArray) (i B I h k : Nat) (hk : k < 6) (hi : i < s.size) (w : World) (hc : w.cell? ⟨B, 0, none⟩ = some (.string s)) (hd : w.cell? ⟨I, 0, none⟩ = some (.int .i64 i)) :
    Calls Try.prog 48 (#[optV h k] ++ #[.pointer (some ⟨B, 0, none⟩), .pointer (some ⟨I, 0, none⟩)]) w fun e w' => e = .returned (.bool (isLetter s[i] k)) ∧ Below w.heap.size w w' := by
  have e0 : ∀ o, (w.alloc o).cell? ⟨B, 0, none⟩ = some (.string s) := fun o => bl_cell (bl_alloc w o) hc
  have e1 : ∀ o, (w.alloc o).cell? ⟨I, 0, none⟩ = some (.int .i64 i) := fun o => bl_cell (bl_alloc w o) hd
  have h0 : (0 : Int) ≤ (i : Int) := by omega
  have h1 : (i : Int) < (s.size : Int) := by omega
  clear hc hd
  rcases (show k = 0 ∨ k = 1 ∨ k = 2 ∨ k = 3 ∨ k = 4 ∨ k = 5 by omega) with rfl | rfl | rfl | rfl | rfl | rfl
  all_goals
    simp only [optV]
    go_enter Try.func48, Try.ntmps48
    go_wp2_with fail
    go_quiet ((go_at_call 49; exact Calls.quiet_of_same (Try.strings_IndexByte _ _ _)))
    go_wp2_with fail
    go_ret
    exact ⟨ret_bool (Lib.contains_iff_indexByte _ _).symm, below_drewN (bl_alloc w _) _⟩
end Go.Proofs.Ytbigolappdlhcaa
