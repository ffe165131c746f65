/- strings.Cut at an equals sign. -/
import Derived.Test.YtbigolappdlhcaaR
import Derived.Lib.Bytealg
import Derived.Lib.Strings
import Derived.Laws.Strings3
namespace Go.Proofs.Ytbigolappdlhcaa
set_option linter.unusedSimpArgs false
set_option linter.unusedVariables false
open Go.RowKit

/-- Where the first equals sign stands (or the end). -/
def eqAt (s : ByteArray) : Nat := s.data.toList.findIdx (· == 61)
def eqIs (s : ByteArray) : Bool := decide (eqAt s < s.size)
/-- The first line, and what stands behind its equals sign. -/
def nmOf (s : ByteArray) : ByteArray := s.extract 0 (eqAt s)
def valOf (s : ByteArray) : ByteArray := if eqAt s < s.size then s.extract (eqAt s + 1) s.size else ⟨#[]⟩

theorem indexByte_findIdx (l : List UInt8) : Lib.indexByte l 61 = if l.findIdx (· == 61) < l.length then (l.findIdx (· == 61) : Int) else -1 := by
  induction l with
  | nil => rfl
  | cons b r ih =>
    simp only [Lib.indexByte, List.findIdx_cons, List.length_cons, ih]
    by_cases hb : (b == 61) = true
    · simp [hb]
    · simp only [hb]
      by_cases hr : r.findIdx (· == 61) < r.length
      · simp only [hr, if_true]
        have : ¬ ((r.findIdx (· == 61) : Int) == -1) = true := by simp
        simp [this, hr]
      · simp [hr]

theorem eqAt_le (s : ByteArray) : eqAt s ≤ s.size := by unfold eqAt; have := @List.findIdx_le_length _ (fun x : UInt8 => x == 61) s.data.toList; simpa using this

theorem index_eq (s : ByteArray) : Lib.indexByte s.data.toList 61 = if eqAt s < s.size then (eqAt s : Int) else -1 := by
  rw [indexByte_findIdx]; rfl

set_option maxHeartbeats 800000 in
set_option maxRecDepth 100000 in
theorem IndexByte_eq (s : ByteArray) (w : World) :
    Calls Try.prog 60 #[.string s, .int .u8 61] w fun e w' => e = .returned (.int .i64 (Lib.indexByte s.data.toList 61)) ∧ w = w' := by
  go_enter Try.func60, Try.ntmps60
  go_wp2
  rw [run_callFunc_extern Try.func74 (by kernel_rfl) (by kernel_rfl) (by kernel_rfl) (e := Extern.BytealgIndexByte.indexByte) (by kernel_rfl), Lib.run_indexByteString]
  simp only [Result.andThen]
  rw [Oper.upon_value]
  go_wp2
  go_ret
  exact ⟨rfl, rfl⟩

set_option maxHeartbeats 800000 in
theorem Index_eq (s : ByteArray) (w : World) :
    Calls Try.prog 67 #[.string s, .string ⟨#[61]⟩] w fun e w' => e = .returned (.int .i64 (Lib.indexByte s.data.toList 61)) ∧ w = w' := by
  go_enter Try.func67, Try.ntmps67
  go_wp2_with (go_at_call 60; refine (IndexByte_eq s _).mono ?_; rintro e w' ⟨rfl, rfl⟩)
  · have h : ([61] == s.toList) = true := by assumption
    have hx : s.data.toList = [61] := by rw [← ByteArray.toList_eq]; exact (beq_iff_eq.1 h).symm
    have hz : Lib.indexByte s.data.toList 61 = 0 := by rw [hx]; rfl
    clear h hx
    go_ret
    exact ⟨ret_int hz.symm, rfl⟩
  · go_ret
    exact ⟨rfl, rfl⟩

set_option maxHeartbeats 800000 in
theorem cut_eq (s : ByteArray) (w : World) (hs : s.size ≤ 9223372036854775806) :
    Calls Try.prog 56 #[.string s, .string ⟨#[61]⟩] w fun e w' => e = .returned (.tuple #[.string (nmOf s), .string (valOf s), .bool (eqIs s)]) ∧ Below w.heap.size w w' := by
  have hle := eqAt_le s
  have HB : Hid (∀ n, Below w.heap.size w (w.drewN n)) := fun n => below_drewN (Below.refl _ _) n
  by_cases hn : eqAt s < s.size
  · have hi : Lib.indexByte s.data.toList 61 = (eqAt s : Int) := by rw [index_eq, if_pos hn]
    have hr : valOf s = s.extract (eqAt s + 1) s.size := by unfold valOf; rw [if_pos hn]
    have hl : nmOf s = s.extract 0 (eqAt s) := rfl
    have hb : eqIs s = true := by simp [eqIs, hn]
    rw [hr, hl, hb]
    have HI := Lib.hid hi
    clear hi hr hl hb
    generalize eqAt s = i at *
    have hw := wrap_in ((i : Int) + 1) (by omega) (by omega)
    have h0 : (0 : Int) ≤ (i : Int) + 1 := by omega
    have h1 : ((i : Int) + 1).toNat = i + 1 := by omega
    go_enter Try.func56, Try.ntmps56
    go_wp2_with (first | (go_at_call 67; refine (Index_eq s _).mono ?_; rintro e w' ⟨rfl, rfl⟩; rw [HI.out]) | go_in)
    go_quiet (fail)
    go_wp2
    go_ret3
    exact ⟨rfl, HB.out _⟩
  · have hi : Lib.indexByte s.data.toList 61 = -1 := by rw [index_eq, if_neg hn]
    have hr : valOf s = ⟨#[]⟩ := by unfold valOf; rw [if_neg hn]
    have hl : nmOf s = s := by
      unfold nmOf; rw [show eqAt s = s.size by omega]; simp
    have hb : eqIs s = false := by simp [eqIs, hn]
    rw [hr, hl, hb]
    have HI := Lib.hid hi
    clear hi hr hl hb hn hle
    go_enter Try.func56, Try.ntmps56
    go_wp2_with (first | (go_at_call 67; refine (Index_eq s _).mono ?_; rintro e w' ⟨rfl, rfl⟩; rw [HI.out]) | go_in)
    go_ret3
    exact ⟨rfl, Below.refl _ _⟩

set_option maxHeartbeats 800000 in
theorem Cut_eq (s : ByteArray) (w : World) (hs : s.size ≤ 9223372036854775806) :
    Calls Try.prog 44 #[.string s, .string ⟨#[61]⟩] w fun e w' => e = .returned (.tuple #[.string (nmOf s), .string (valOf s), .bool (eqIs s)]) ∧ Below w.heap.size w w' := by
  go_enter Try.func44, Try.ntmps44
  go_wp2_with (first | (go_at_call 56; refine (cut_eq s _ hs).mono ?_; rintro e w' ⟨rfl, hb⟩))
  go_ret3
  exact ⟨rfl, hb⟩
end Go.Proofs.Ytbigolappdlhcaa
