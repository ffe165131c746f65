/- The walk of SpaceJoins. -/
import Derived.Test.YtbhepdlcnfcfgaaE
namespace Go.Proofs.Ytbhepdlcnfcfgaa
set_option linter.unusedSimpArgs false
set_option linter.unusedVariables false
open Go.RowKit

set_option maxHeartbeats 1600000 in
theorem joins_any (a b : ByteArray) (w : World) : Calls Try.prog 3 #[.string a, .string b] w fun e w' => e = .returned (.bool true) ∧ Below w.heap.size w w' := by
  by_cases ha : 67108864 < a.size
  · go_enter Try.func3, Try.ntmps3
    go_wp2_with (go_at_call 9; refine (begins_any _).mono ?_; rintro e w1 ⟨rfl, hb1⟩)
    go_ret
    exact ⟨rfl, hb1⟩
  by_cases hbs : 67108864 < b.size
  · go_enter Try.func3, Try.ntmps3
    go_wp2_with (go_at_call 9; refine (begins_any _).mono ?_; rintro e w1 ⟨rfl, hb1⟩)
    go_ret
    exact ⟨rfl, hb1⟩
  have j0 : (joined a b).size = a.size + 1 + b.size := joined_size a b
  have j1 : (joined b (joined a b)).size = b.size + 1 + (a.size + 1 + b.size) := by rw [joined_size, joined_size]
  have j2 : (joined (joined b (joined a b)) a).size = b.size + 1 + (a.size + 1 + b.size) + 1 + a.size := by rw [joined_size, joined_size, joined_size]
  have e0 : Hid (joined a b = a ++ ⟨#[10]⟩ ++ b) := by show _ = _; simp [joined, ByteArray.append_assoc]
  have e1 : Hid (joined b (joined a b) = b ++ ⟨#[10]⟩ ++ a ++ ⟨#[10]⟩ ++ b) := by show _ = _; simp [joined, ByteArray.append_assoc]
  have e2 : Hid (joined (b ++ ⟨#[10]⟩ ++ a ++ ⟨#[10]⟩ ++ b) a = b ++ ⟨#[10]⟩ ++ a ++ ⟨#[10]⟩ ++ b ++ ⟨#[10]⟩ ++ a) := by show _ = _; simp [joined, ByteArray.append_assoc]
  have J0 := Lib.hid j0
  have J1 := Lib.hid j1
  have J2 := Lib.hid j2
  clear j0 j1 j2
  go_enter Try.func3, Try.ntmps3
  go_wp2_with (go_at_call 9; refine (begins_any _).mono ?_; rintro e w0 ⟨rfl, hb0⟩)
  refine (New_yes 1073741824 _ (by omega) (by omega)).mono ?_
  rintro e w1 ⟨rfl, s1, hb1⟩
  go_wp2_with fail
  refine (Set_st _ _ ⟨#[]⟩ ⟨#[]⟩ a _ _ [] _ s1 (by omega)).mono ?_
  rintro e w2 ⟨c, rfl, hp⟩
  obtain ⟨rfl, s2, hf2⟩ := hp.yes (by rw [sz_nil]; simp [tot]; omega)
  clear hp
  go_wp2_with fail
  refine (Put_st _ _ _ _ _ _ [] _ s2).mono ?_
  rintro e w3 ⟨c, rfl, hp⟩
  obtain ⟨rfl, s3, hf3⟩ := hp.yes (by simp [tot]; omega)
  clear hp
  go_wp2_with fail
  refine (Set_st _ _ _ _ b _ _ [] _ s3 (by omega)).mono ?_
  rintro e w4 ⟨c, rfl, hp⟩
  obtain ⟨rfl, s4, hf4⟩ := hp.yes (by simp [tot]; omega)
  clear hp
  go_wp2_with fail
  refine (PutMore_st _ _ _ _ _ _ [] _ s4).mono ?_
  rintro e w5 ⟨c, rfl, hp⟩
  obtain ⟨rfl, s5, hf5⟩ := hp.yes (by rw [J0.out]; simp [tot]; omega)
  clear hp
  go_wp2_with fail
  refine (GetMore_st _ _ _ _ _ _ [] _ s5).mono ?_
  rintro e w6 ⟨c, rfl, hp⟩
  obtain ⟨rfl, s6, hf6⟩ := hp.yes (by rw [J1.out, J0.out]; simp [tot]; omega)
  clear hp
  have HB := Lib.hid (Fr.ats (Fr.ats (Fr.ats (Fr.ats (Fr.ats ⟨bl_to hb0 hb1, Nat.le_trans hb0.size hb1.size⟩ hf2 hb0.size) hf3 hb0.size) hf4 hb0.size) hf5 hb0.size) hf6 hb0.size)
  have hsz := hb0.size
  clear hb0 hb1 hf2 hf3 hf4 hf5 hf6 s1 s2 s3 s4 s5
  rw [e1.out, e0.out] at s6
  go_wp2_with (first
    | (go_at_call 16; refine (Pattern_any _ _ _ _ _ _ s6.sp).mono ?_; rintro e w' ⟨rfl, rfl⟩)
    | (go_at_call 15; refine (Hold_any _ _ _ _ _ _ s6.sp).mono ?_; rintro e w' ⟨rfl, rfl⟩))
  refine (Join_st _ _ _ _ a _ _ [] _ s6 (by omega)).mono ?_
  rintro e w7 ⟨c, rfl, hp⟩
  obtain ⟨rfl, s7, hf7⟩ := hp.yes (by rw [joined_size, ByteArray.size_append, ByteArray.size_append, ByteArray.size_append, ByteArray.size_append, ByteArray.size_append, ByteArray.size_append, show (⟨#[10]⟩ : ByteArray).size = 1 from rfl]; simp [tot]; omega)
  clear hp s6
  rw [e2.out] at s7
  have HC := Lib.hid (Fr.ats HB.out hf7 hsz).1
  go_wp2_with (first
    | (go_at_call 16; refine (Pattern_any _ _ _ _ _ _ s7.sp).mono ?_; rintro e w' ⟨rfl, rfl⟩))
  go_ret
  exact ⟨by simp, HC.out⟩

end Go.Proofs.Ytbhepdlcnfcfgaa
