/- The walk of SpaceLines. -/
import Derived.Test.YtbhepdlcnfcfgaaE
import Derived.Test.YtbhepdlcnfcfgaaD
namespace Go.Proofs.Ytbhepdlcnfcfgaa
set_option linter.unusedSimpArgs false
set_option linter.unusedVariables false
open Go.RowKit

theorem ba_ext {a b : ByteArray} (h : a.data.toList = b.data.toList) : a = b := WideShapes.bytes_inj h
theorem ba_append (a b : ByteArray) : (a ++ b).data.toList = a.data.toList ++ b.data.toList := by rw [ByteArray.data_append, Array.toList_append]
theorem ba_extract (s : ByteArray) (a b : Nat) : (s.extract a b).data.toList = (s.data.toList.take b).drop a := by
  rw [ByteArray.data_extract, Array.toList_extract, List.extract_eq_drop_take', ]

/-- A text with a line feed is its line, the line feed, and the rest. -/
theorem line_rest (p : ByteArray) (h : nlIs p = true) : line p ++ ⟨#[10]⟩ ++ rest p = p ∧ (rest p).size + 1 ≤ p.size := by
  have hn : nlAt p < p.size := by simpa [nlIs] using h
  have hr : rest p = p.extract (nlAt p + 1) p.size := by unfold rest; rw [if_pos hn]
  refine ⟨?_, by rw [hr, ByteArray.size_extract]; omega⟩
  apply ba_ext
  rw [hr, ba_append, ba_append]
  unfold line
  rw [ba_extract, ba_extract]
  have hlen : p.data.toList.length = p.size := by simp
  have hn' : p.data.toList.findIdx (· == 10) < p.data.toList.length := by rw [hlen]; exact hn
  have hx : p.data.toList[nlAt p]'(by omega) = 10 := by
    have := List.findIdx_getElem (p := fun x : UInt8 => x == 10) (xs := p.data.toList) (w := hn')
    simpa [nlAt] using this
  have h1 : p.data.toList.take (nlAt p + 1) = p.data.toList.take (nlAt p) ++ [10] := by
    rw [List.take_succ_eq_append_getElem (by omega), hx]
  rw [List.drop_zero, ← hlen, List.take_length]
  show p.data.toList.take (nlAt p) ++ [10] ++ p.data.toList.drop (nlAt p + 1) = _
  rw [← h1, List.take_append_drop]

theorem line_last (p : ByteArray) (h : nlIs p = false) : line p = p ∧ rest p = ⟨#[]⟩ := by
  have hn : ¬ nlAt p < p.size := by simpa [nlIs] using h
  have hle := nlAt_le p
  refine ⟨?_, by unfold rest; rw [if_neg hn]⟩
  unfold line
  rw [show nlAt p = p.size by omega]
  simp

theorem ret_bool {a b : Bool} (h : a = b) : Ending.returned (.bool a) = .returned (.bool b) := by rw [h]
theorem nil_append (a : ByteArray) : (⟨#[]⟩ : ByteArray) ++ a = a := ba_ext (by rw [ba_append]; rfl)
theorem append_nil (a : ByteArray) : a ++ (⟨#[]⟩ : ByteArray) = a := ba_ext (by rw [ba_append]; exact List.append_nil _)
theorem line_le (p : ByteArray) : (line p).size ≤ p.size := by unfold line; rw [ByteArray.size_extract]; omega
theorem step_line {a d p : ByteArray} (h : d ++ p = a) (hn : nlIs p = true) : d ++ line p ++ ⟨#[10]⟩ ++ rest p = a := by
  rw [ByteArray.append_assoc, ByteArray.append_assoc, ← ByteArray.append_assoc (a := line p), (line_rest p hn).1, h]
theorem size_step (d p : ByteArray) (hn : nlIs p = true) : (d ++ line p ++ ⟨#[10]⟩).size + (rest p).size = d.size + p.size := by
  have h := congrArg ByteArray.size (line_rest p hn).1
  rw [ByteArray.size_append, ByteArray.size_append] at h
  rw [ByteArray.size_append, ByteArray.size_append]
  omega

set_option maxHeartbeats 1600000 in
theorem lines_any (a b : ByteArray) (w : World) : Calls Try.prog 5 #[.string a, .string b] w fun e w' => e = .returned (.bool true) ∧ Below w.heap.size w w' := by
  by_cases ha : 134217728 < a.size
  · go_enter Try.func5, Try.ntmps5
    go_wp2_with (go_at_call 9; refine (begins_any _).mono ?_; rintro e w1 ⟨rfl, hb1⟩)
    go_ret
    exact ⟨rfl, hb1⟩
  by_cases hbs : 134217728 < b.size
  · go_enter Try.func5, Try.ntmps5
    go_wp2_with (go_at_call 9; refine (begins_any _).mono ?_; rintro e w1 ⟨rfl, hb1⟩)
    go_ret
    exact ⟨rfl, hb1⟩
  have hda : decide (134217728 < (a.size : Int)) = false := by simp; omega
  have hdb : decide (134217728 < (b.size : Int)) = false := by simp; omega
  go_enter Try.func5, Try.ntmps5
  go_wp2_with (go_at_call 9; refine (begins_any _).mono ?_; rintro e w0 ⟨rfl, hb0⟩)
  refine (New_yes 1073741824 _ (by omega) (by omega)).mono ?_
  rintro e w1 ⟨rfl, s1, hb1⟩
  go_wp2_with fail
  refine (Set_st _ _ ⟨#[]⟩ ⟨#[]⟩ b _ _ [] _ s1 (by omega)).mono ?_
  rintro e w2 ⟨c, rfl, hp⟩
  obtain ⟨rfl, s2, hf2⟩ := hp.yes (by rw [sz_nil]; simp [tot]; omega)
  clear hp
  go_wp2_with fail
  refine (Put_st _ _ _ _ _ _ [] _ s2).mono ?_
  rintro e w3 ⟨c, rfl, hp⟩
  obtain ⟨rfl, s3, hf3⟩ := hp.yes (by simp [tot]; omega)
  clear hp
  go_wp2_with fail
  refine (Set_st _ _ _ _ a _ _ [] _ s3 (by omega)).mono ?_
  rintro e w4 ⟨c, rfl, hp⟩
  obtain ⟨rfl, s4, hf4⟩ := hp.yes (by simp [tot]; omega)
  clear hp
  go_wp2_with fail
  refine (Swap_st _ _ _ _ _ _ [] _ s4).mono ?_
  rintro e w5 ⟨c, rfl, hp⟩
  obtain ⟨rfl, s5, hf5⟩ := hp.yes (by simp [tot]; omega)
  clear hp
  have HB := Lib.hid (Fr.ats (Fr.ats (Fr.ats (Fr.ats ⟨bl_to hb0 hb1, Nat.le_trans hb0.size hb1.size⟩ hf2 hb0.size) hf3 hb0.size) hf4 hb0.size) hf5 hb0.size)
  have hsz := hb0.size
  clear hb0 hb1 hf2 hf3 hf4 hf5 s1 s2 s3 s4
  go_wp2_with (first
    | (go_at_call 16; refine (Pattern_any _ _ _ _ _ _ s5.sp).mono ?_; rintro e w' ⟨rfl, rfl⟩)
    | (go_at_call 15; refine (Hold_any _ _ _ _ _ _ s5.sp).mono ?_; rintro e w' ⟨rfl, rfl⟩))
  refine (Swap_st _ _ _ _ _ _ [] _ s5).mono ?_
  rintro e w6 ⟨c, rfl, hp⟩
  obtain ⟨rfl, s6, hf6⟩ := hp.yes (by simp [tot]; omega)
  clear hp
  go_wp2_with fail
  refine (Put_st _ _ _ _ _ _ [] _ s6).mono ?_
  rintro e w7 ⟨c, rfl, hp⟩
  obtain ⟨rfl, s7, hf7⟩ := hp.yes (by simp [tot]; omega)
  clear hp
  go_wp2_with fail
  refine (Get_st _ _ _ _ _ _ [] _ s7).mono ?_
  rintro e w8 ⟨c, rfl, hp⟩
  obtain ⟨rfl, s8, hf8⟩ := hp.yes (by simp [tot]; omega)
  clear hp
  have HC := Lib.hid (Fr.ats (Fr.ats (Fr.ats HB.out hf6 hsz) hf7 hsz) hf8 hsz)
  clear HB hf6 hf7 hf8 s5 s6 s7
  go_wp2_with (first
    | (go_at_call 16; refine (Pattern_any _ _ _ _ _ _ s8.sp).mono ?_; rintro e w' ⟨rfl, rfl⟩)
    | (go_at_call 15; refine (Hold_any _ _ _ _ _ _ s8.sp).mono ?_; rintro e w' ⟨rfl, rfl⟩))
  go_loopw [7, 8] (fun al i wr => ∃ (j : Nat) (p d : ByteArray), i = .int .i64 j ∧ al = .string d ∧ Hid (d ++ p = a) ∧ d.size + p.size = a.size ∧ p.size + j ≤ a.size ∧ St wr w0.heap.size w0.heap.size p a (.slice none 0 0) 1073741824 [] ∧ (Below w.heap.size w wr ∧ w.heap.size ≤ wr.heap.size)) (fun _ i _ => (a.size + 1 : Nat) - (intOf i).toNat)
  case atStart => exact ⟨0, a, ⟨#[]⟩, rfl, rfl, nil_append a, by rw [sz_nil]; omega, by omega, s8, HC.out⟩
  case round =>
    obtain ⟨j, p, d, rfl, rfl, hda', hsz1, hsz2, hs, hbl⟩ := hrel
    have hll := line_le p
    by_cases hn : nlIs p = true
    · go_wp2_with (first
        | (go_at_call 25; refine (First_st _ _ _ _ _ _ _ _ hs).mono ?_; rintro e w9 ⟨rfl, hb9⟩)
        | (go_at_call 26; refine (Drop_st _ _ _ _ _ _ _ _ (hs.to hb9)).mono ?_; rintro e w10 ⟨rfl, hf10, hs10⟩))
      have HL := Lib.hid (line_rest p hn).2
      have HN := Lib.hid hn
      have HB9 := Lib.hid (Fr.ats ⟨bl_to hbl.1 hb9, Nat.le_trans hbl.2 hb9.size⟩ hf10 hsz)
      clear hn
      go_roundw
      case rel => exact ⟨j + 1, rest p, _, by go_num, rfl, step_line hda' HN.out, by rw [size_step d p HN.out]; exact hsz1, by have := HL.out; omega, hs10, HB9.out⟩
      case measure => simp [intOf]; omega
    · have hn' : nlIs p = false := by simpa using hn
      go_wp2_with (first
        | (go_at_call 25; refine (First_st _ _ _ _ _ _ _ _ hs).mono ?_; rintro e w9 ⟨rfl, hb9⟩)
        | (go_at_call 26; refine (Drop_st _ _ _ _ _ _ _ _ (hs.to hb9)).mono ?_; rintro e w10 ⟨rfl, hf10, hs10⟩)
        | (go_at_call 16; refine (Pattern_any _ _ _ _ _ _ hs10.sp).mono ?_; rintro e w' ⟨rfl, rfl⟩))
      · have HB9 := (Fr.ats ⟨bl_to hbl.1 hb9, Nat.le_trans hbl.2 hb9.size⟩ hf10 hsz).1
        go_ret
        exact ⟨ret_bool (by rw [(line_last p hn').2, ByteArray.toList_eq]; rfl), HB9⟩
      · exfalso
        have hx : ¬ (d ++ line p).toList = a.toList := by assumption
        exact hx (by rw [(line_last p hn').1, hda'.out])

end Go.Proofs.Ytbhepdlcnfcfgaa
