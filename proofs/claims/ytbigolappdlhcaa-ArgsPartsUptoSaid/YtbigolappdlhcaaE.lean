/- strings.ContainsAny at the two bytes that a suffix may not hold; suffixed. -/
import Derived.Test.YtbigolappdlhcaaD
namespace Go.Proofs.Ytbigolappdlhcaa
set_option linter.unusedSimpArgs false
set_option linter.unusedVariables false
open Go.RowKit

theorem indexAny_bads (l : List UInt8) : decide (0 ≤ Lib.indexAny l bads.data.toList) = l.any badB := by
  induction l with
  | nil => rfl
  | cons b l ih =>
    have hc : bads.data.toList.contains b = badB b := by rw [← indexByte_bads, Lib.contains_iff_indexByte]
    have hge := Lib.indexAny_ge bads.data.toList l
    rw [Lib.indexAny, hc, List.any_cons, ← ih]
    cases badB b with
    | true => simp
    | false =>
      by_cases h : Lib.indexAny l bads.data.toList = -1
      · simp [h]
      · have h1 : 0 ≤ Lib.indexAny l bads.data.toList := by omega
        have h2 : 0 ≤ Lib.indexAny l bads.data.toList + 1 := by omega
        simp [h, h1, h2]

theorem info98 : (Try.prog.info? 98).map (fun i => (i.zero, i.size)) = some (some (.agg (Array.replicate 256 (.bool false))), 256) := by kernel_rfl

theorem idx_long (s : ByteArray) (w : World) (h8 : 8 < s.size) (hs : s.size ≤ 255) : Calls Try.prog 55 #[.string s, .string bads] w (IdxPost s w) :=
  (Try.strings_IndexAny_long (zero_of_info info98).1 s bads w (by decide) h8 (by omega) (by decide) (by
    intro j b hj
    match j, hj with
    | 0, hj => simp at hj; subst hj; decide
    | 1, hj => simp at hj; subst hj; decide)).mono fun e w' ⟨h1, h2⟩ => ⟨_, h1, indexAny_bads _, by
      rw [h2]
      exact ((Below.refl _ _).alloc (Nat.le_refl _) _).alloc (by simp) _⟩

theorem idx_any (s : ByteArray) (w : World) (hs : s.size ≤ 255) : Calls Try.prog 55 #[.string s, .string bads] w (IdxPost s w) := by
  by_cases h8 : s.size ≤ 8
  · exact idx_short s w h8
  · exact idx_long s w (by omega) hs

theorem contains_any (s : ByteArray) (w : World) (hs : s.size ≤ 255) : Calls Try.prog 41 #[.string s, .string bads] w fun e w' => e = .returned (.bool (hasBad s)) ∧ Below w.heap.size w w' := by
  go_enter Try.func41, Try.ntmps41
  go_wp2_with fail
  refine (idx_any s _ hs).mono ?_
  rintro e w1 ⟨k, rfl, hk, hb⟩
  have HK := Lib.hid hk
  clear hk
  go_wp2_with fail
  go_ret
  exact ⟨ret_bool HK.out, hb⟩

theorem suffixed_any (s : ByteArray) (w : World) : Calls Try.prog 28 #[.string s] w fun e w' => e = .returned (.bool (sufOk s)) ∧ Below w.heap.size w w' := by
  by_cases hsz : s.size ≤ 255
  · have hval : sufOk s = !hasBad s := by simp [sufOk, hsz]
    rw [hval]
    clear hval
    have hg : decide ((s.size : Int) ≤ 255) = true := decide_eq_true (by omega)
    have hg2 : (s.size : Int) ≤ 255 := by omega
    go_enter Try.func28, Try.ntmps28
    go_wp2_with (go_at_call 41; refine (contains_any s _ hsz).mono ?_; rintro e w1 ⟨rfl, hb⟩)
    go_ret
    exact ⟨rfl, hb⟩
  · have hval : sufOk s = false := by simp [sufOk, hsz]
    rw [hval]
    clear hval
    have hg : decide ((s.size : Int) ≤ 255) = false := decide_eq_false (by omega)
    have hg2 : (255 : Int) < (s.size : Int) := by omega
    go_enter Try.func28, Try.ntmps28
    go_wp2_with fail
    go_ret
    exact ⟨rfl, Below.refl _ _⟩
end Go.Proofs.Ytbigolappdlhcaa
