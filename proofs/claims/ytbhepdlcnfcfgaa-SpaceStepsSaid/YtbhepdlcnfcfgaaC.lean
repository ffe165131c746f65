/- strings.Cut at a line feed; First and Drop. -/
import Derived.Test.YtbhepdlcnfcfgaaM
import Derived.Lib.Bytealg
import Derived.Lib.Strings
import Derived.Laws.Strings3
namespace Go.Proofs.Ytbhepdlcnfcfgaa
set_option linter.unusedSimpArgs false
set_option linter.unusedVariables false
open Go.RowKit

/-- Where the first line feed stands (or the end). -/
def nlAt (s : ByteArray) : Nat := s.data.toList.findIdx (· == 10)
def nlIs (s : ByteArray) : Bool := decide (nlAt s < s.size)
/-- The first line, and what stands behind its line feed. -/
def line (s : ByteArray) : ByteArray := s.extract 0 (nlAt s)
def rest (s : ByteArray) : ByteArray := if nlAt s < s.size then s.extract (nlAt s + 1) s.size else ⟨#[]⟩

theorem indexByte_findIdx (l : List UInt8) : Lib.indexByte l 10 = if l.findIdx (· == 10) < l.length then (l.findIdx (· == 10) : Int) else -1 := by
  induction l with
  | nil => rfl
  | cons b r ih =>
    simp only [Lib.indexByte, List.findIdx_cons, List.length_cons, ih]
    by_cases hb : (b == 10) = true
    · simp [hb]
    · simp only [hb]
      by_cases hr : r.findIdx (· == 10) < r.length
      · simp only [hr, if_true]
        have : ¬ ((r.findIdx (· == 10) : Int) == -1) = true := by simp
        simp [this, hr]
      · simp [hr]

theorem nlAt_le (s : ByteArray) : nlAt s ≤ s.size := by unfold nlAt; have := @List.findIdx_le_length _ (fun x : UInt8 => x == 10) s.data.toList; simpa using this

theorem index_nl (s : ByteArray) : Lib.indexByte s.data.toList 10 = if nlAt s < s.size then (nlAt s : Int) else -1 := by
  rw [indexByte_findIdx]; rfl

set_option maxHeartbeats 800000 in
set_option maxRecDepth 100000 in
theorem IndexByte_nl (s : ByteArray) (w : World) :
    Calls Try.prog 49 #[.string s, .int .u8 10] w fun e w' => e = .returned (.int .i64 (Lib.indexByte s.data.toList 10)) ∧ w = w' := by
  go_enter Try.func49, Try.ntmps49
  go_wp2
  rw [run_callFunc_extern Try.func53 (by kernel_rfl) (by kernel_rfl) (by kernel_rfl) (e := Extern.BytealgIndexByte.indexByte) (by kernel_rfl), Lib.run_indexByteString]
  simp only [Result.andThen]
  rw [Oper.upon_value]
  go_wp2
  go_ret
  exact ⟨rfl, rfl⟩

set_option maxHeartbeats 800000 in
theorem Index_nl (s : ByteArray) (w : World) :
    Calls Try.prog 48 #[.string s, .string ⟨#[10]⟩] w fun e w' => e = .returned (.int .i64 (Lib.indexByte s.data.toList 10)) ∧ w = w' := by
  go_enter Try.func48, Try.ntmps48
  go_wp2_with (go_at_call 49; refine (IndexByte_nl s _).mono ?_; rintro e w' ⟨rfl, rfl⟩)
  · have h : ([10] == s.toList) = true := by assumption
    have hx : s.data.toList = [10] := by rw [← ByteArray.toList_eq]; exact (beq_iff_eq.1 h).symm
    have hz : Lib.indexByte s.data.toList 10 = 0 := by rw [hx]; rfl
    clear h hx
    go_ret
    exact ⟨ret_int hz.symm, rfl⟩
  · go_ret
    exact ⟨rfl, rfl⟩

set_option maxHeartbeats 800000 in
theorem cut_nl (s : ByteArray) (w : World) (hs : s.size ≤ 9223372036854775806) :
    Calls Try.prog 46 #[.string s, .string ⟨#[10]⟩] w fun e w' => e = .returned (.tuple #[.string (line s), .string (rest s), .bool (nlIs s)]) ∧ Below w.heap.size w w' := by
  have hle := nlAt_le s
  have HB : Hid (∀ n, Below w.heap.size w (w.drewN n)) := fun n => below_drewN (Below.refl _ _) n
  by_cases hn : nlAt s < s.size
  · have hi : Lib.indexByte s.data.toList 10 = (nlAt s : Int) := by rw [index_nl, if_pos hn]
    have hr : rest s = s.extract (nlAt s + 1) s.size := by unfold rest; rw [if_pos hn]
    have hl : line s = s.extract 0 (nlAt s) := rfl
    have hb : nlIs s = true := by simp [nlIs, hn]
    rw [hr, hl, hb]
    have HI := Lib.hid hi
    clear hi hr hl hb
    generalize nlAt s = i at *
    have hw := wrap_in ((i : Int) + 1) (by omega) (by omega)
    have h0 : (0 : Int) ≤ (i : Int) + 1 := by omega
    have h1 : ((i : Int) + 1).toNat = i + 1 := by omega
    go_enter Try.func46, Try.ntmps46
    go_wp2_with (first | (go_at_call 48; refine (Index_nl s _).mono ?_; rintro e w' ⟨rfl, rfl⟩; rw [HI.out]) | go_in)
    go_quiet (fail)
    go_wp2
    go_ret3
    exact ⟨rfl, HB.out _⟩
  · have hi : Lib.indexByte s.data.toList 10 = -1 := by rw [index_nl, if_neg hn]
    have hr : rest s = ⟨#[]⟩ := by unfold rest; rw [if_neg hn]
    have hl : line s = s := by
      unfold line; rw [show nlAt s = s.size by omega]; simp
    have hb : nlIs s = false := by simp [nlIs, hn]
    rw [hr, hl, hb]
    have HI := Lib.hid hi
    clear hi hr hl hb hn hle
    go_enter Try.func46, Try.ntmps46
    go_wp2_with (first | (go_at_call 48; refine (Index_nl s _).mono ?_; rintro e w' ⟨rfl, rfl⟩; rw [HI.out]) | go_in)
    go_ret3
    exact ⟨rfl, Below.refl _ _⟩

set_option maxHeartbeats 800000 in
theorem Cut_nl (s : ByteArray) (w : World) (hs : s.size ≤ 9223372036854775806) :
    Calls Try.prog 42 #[.string s, .string ⟨#[10]⟩] w fun e w' => e = .returned (.tuple #[.string (line s), .string (rest s), .bool (nlIs s)]) ∧ Below w.heap.size w w' := by
  go_enter Try.func42, Try.ntmps42
  go_wp2_with (first | (go_at_call 46; refine (cut_nl s _ hs).mono ?_; rintro e w' ⟨rfl, hb⟩))
  go_ret3
  exact ⟨rfl, hb⟩
end Go.Proofs.Ytbhepdlcnfcfgaa
