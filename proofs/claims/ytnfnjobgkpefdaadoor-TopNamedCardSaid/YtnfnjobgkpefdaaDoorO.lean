/- Name. -/
import Derived.Test.YtnfnjobgkpefdaaDoorN
namespace Go.Proofs.YtnfnjobgkpefdaaDoor
set_option linter.unusedSimpArgs false
set_option linter.unusedVariables false
open Go.RowKit

/-- May a text be a name? -/
def nameL (l : Bs) : Bool := !l.isEmpty && decide (l.length ≤ 255) && !(l == [46]) && !(l == [46, 46]) && !hasSN l
theorem nameL_ne {l : Bs} (h : nameL l = true) : l ≠ [] ∧ l.length ≤ 255 ∧ 47 ∉ l ∧ 0 ∉ l ∧ l ≠ [46] ∧ l ≠ [46, 46] := by
  unfold nameL hasSN at h
  simp only [Bool.and_eq_true, Bool.not_eq_true', decide_eq_true_eq, List.isEmpty_eq_false_iff, beq_eq_false_iff_ne, List.any_eq_false] at h
  obtain ⟨⟨⟨⟨h1, h2⟩, h3⟩, h4⟩, h5⟩ := h
  refine ⟨h1, h2, fun e => ?_, fun e => ?_, h3, h4⟩
  · exact h5 _ e (by decide)
  · exact h5 _ e (by decide)

set_option maxRecDepth 8000 in
set_option maxHeartbeats 3200000 in
theorem Name_any (s : ByteArray) (w : World) :
    Calls Tryd.prog 16 #[.string s] w fun e w' => e = .returned (.bool (nameL s.data.toList)) ∧ Below w.heap.size w w' := by
  have HC := Lib.hid (fun h => ContainsAny_any s ⟨#[47, 0]⟩ w rfl h)
  have e := Lib.toList_data s
  have HL := Lib.hid (show s.data.toList.length = s.size from (Lib.size_eq s).symm)
  obtain ⟨l, hl⟩ : ∃ l, s.toList = l := ⟨_, rfl⟩
  have HE := Lib.hid (show s.data.toList = l by rw [← hl, e])
  clear e
  by_cases h1 : l = []
  · have HN := Lib.hid (show nameL s.data.toList = false by rw [HE.out, h1]; rfl)
    subst h1
    have e1 : s.toList.isEmpty = true := by rw [hl]; rfl
    have e2 : (s.toList == []) = true := by rw [hl]; rfl
    go_enter Tryd.func16, Tryd.ntmps16
    go_wp2_with fail
    go_ret
    exact ⟨by rw [HN.out]; rfl, Below.refl _ _⟩
  have e1 : s.toList.isEmpty = false := by rw [hl]; cases l with | nil => exact absurd rfl h1 | cons => rfl
  have e2 : (s.toList == []) = false := by rw [hl]; simpa using h1
  have e3 : ¬ s.toList = [] := by rw [hl]; exact h1
  by_cases h2 : s.size ≤ 255
  case neg =>
    have HN := Lib.hid (show nameL s.data.toList = false by unfold nameL; rw [HL.out, decide_eq_false h2]; simp)
    have d2 : decide ((s.size : Int) ≤ 255) = false := decide_eq_false (by omega)
    have d3 : ¬ (s.size : Int) ≤ 255 := by omega
    clear hl
    go_enter Tryd.func16, Tryd.ntmps16
    go_wp2_with fail
    go_ret
    exact ⟨by rw [HN.out]; rfl, Below.refl _ _⟩
  have d2 : decide ((s.size : Int) ≤ 255) = true := decide_eq_true (by omega)
  have d3 : (s.size : Int) ≤ 255 := by omega
  by_cases h3 : l = [46]
  · have HN := Lib.hid (show nameL s.data.toList = false by rw [HE.out, h3]; rfl)
    have f1 : (s.toList == [46]) = true := by rw [hl, h3]; rfl
    have f2 : s.toList = [46] := by rw [hl, h3]
    clear hl f1 e1 e2 e3
    go_enter Tryd.func16, Tryd.ntmps16
    go_wp2_with fail
    go_ret
    exact ⟨by rw [HN.out]; rfl, Below.refl _ _⟩
  have f1 : (s.toList == [46]) = false := by rw [hl]; simpa using h3
  have f2 : ¬ s.toList = [46] := by rw [hl]; exact h3
  by_cases h4 : l = [46, 46]
  · have HN := Lib.hid (show nameL s.data.toList = false by rw [HE.out, h4]; rfl)
    have f3 : s.toList = [46, 46] := by rw [hl, h4]
    clear hl f1 f2 e1 e2 e3
    go_enter Tryd.func16, Tryd.ntmps16
    go_wp2_with fail
    go_ret
    exact ⟨by rw [HN.out]; rfl, Below.refl _ _⟩
  have f3 : (s.toList == [46, 46]) = false := by rw [hl]; simpa using h4
  have f4 : ¬ s.toList = [46, 46] := by rw [hl]; exact h4
  have HN := Lib.hid (show nameL s.data.toList = !hasSN s.data.toList by
    unfold nameL
    rw [HL.out, decide_eq_true h2, HE.out, ← hl, e1, f1, f3]
    simp)
  have HC2 := Lib.hid (HC.out (by omega))
  clear hl
  go_enter Tryd.func16, Tryd.ntmps16
  go_wp2_with fail
  refine HC2.out.mono ?_
  rintro e w' ⟨rfl, hb⟩
  have HB := Lib.hid hb
  clear hb
  go_wp2_with fail
  go_ret
  exact ⟨by rw [HN.out]; rfl, HB.out⟩
end Go.Proofs.YtnfnjobgkpefdaaDoor
