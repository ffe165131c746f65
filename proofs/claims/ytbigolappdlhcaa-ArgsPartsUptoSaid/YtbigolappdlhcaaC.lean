/- May a text be a suffix: the code's test (strings.ContainsAny) and the reference's. -/
import Derived.Test.YtbigolappdlhcaaB
import Derived.Test.YtbigolappdlhcaaShelf
import Derived.Laws.RangeAny
import Derived.Laws.Runes
import Derived.WalkMore
import Derived.Lib.OthersKept
import Derived.Outline
namespace Go.Proofs.Ytbigolappdlhcaa
set_option linter.unusedSimpArgs false
set_option linter.unusedVariables false
open Go.RowKit

def badB (b : UInt8) : Bool := b == 47 || b == 0
def hasBad (s : ByteArray) : Bool := s.data.toList.any badB
/-- May it be a suffix? -/
def sufOk (s : ByteArray) : Bool := decide (s.size ≤ 255) && !hasBad s

theorem any_take_succ (l : List UInt8) (j : Nat) (h : j < l.length) : (l.take (j + 1)).any badB = ((l.take j).any badB || badB l[j]) := by
  rw [List.take_succ_eq_append_getElem h, List.any_append]; simp

theorem badB_no {b : UInt8} (h : badB b = false) : ((b.toNat : Int) == 47) = false ∧ ((b.toNat : Int) == 0) = false := by
  simp only [badB, Bool.or_eq_false_iff, beq_eq_false_iff_ne, ne_eq] at h
  refine ⟨?_, ?_⟩
  · simp only [beq_eq_false_iff_ne, ne_eq]
    intro e; apply h.1; apply UInt8.toNat_inj.1; simp; omega
  · simp only [beq_eq_false_iff_ne, ne_eq]
    intro e; apply h.2; apply UInt8.toNat_inj.1; simp; omega
theorem badB_yes {b : UInt8} (h : badB b = true) : b = 47 ∨ (b = 0 ∧ ((b.toNat : Int) == 47) = false) := by
  simp only [badB, Bool.or_eq_true, beq_iff_eq] at h
  rcases h with h | h
  · exact .inl h
  · exact .inr ⟨h, by rw [h]; rfl⟩

set_option maxHeartbeats 1600000 in
theorem suffix_any (s : ByteArray) (w : World) : Calls Try.prog 29 #[.string s] w fun e w' => e = .returned (.bool (sufOk s)) ∧ w = w' := by
  by_cases hsz : s.size ≤ 255
  · have hval : sufOk s = !hasBad s := by simp [sufOk, hsz]
    rw [hval]
    clear hval
    have hg : ¬ ((255 : Int) < (s.size : Int)) := by omega
    go_enter Try.func29, Try.ntmps29
    go_wp2
    go_loop [3] (fun i => ∃ j : Nat, j ≤ s.size ∧ i = .int .i64 j ∧ Hid ((s.data.toList.take j).any badB = false)) (fun i => s.size - (intOf i).toNat)
    case atStart => exact ⟨0, Nat.zero_le _, rfl, rfl⟩
    case round =>
      obtain ⟨j, hj, rfl, hno⟩ := hrel
      by_cases hlt : j < s.size
      · have hs1 := any_take_succ s.data.toList j (by simpa using hlt)
        have hb : s.data.toList[j]'(by simpa using hlt) = s[j] := rfl
        rw [hb] at hs1
        rw [hno.out] at hs1
        obtain ⟨x, hx⟩ : ∃ x : UInt8, s[j] = x := ⟨_, rfl⟩
        rw [hx] at hs1
        rcases Bool.eq_false_or_eq_true (badB x) with hbx | hbx
        · have hh : hasBad s = true := by
            show s.data.toList.any badB = true
            apply List.any_eq_true.2
            exact ⟨x, by rw [← hx, ← hb]; exact List.getElem_mem _, hbx⟩
          have HH := Lib.hid hh
          clear hs1 hh
          rcases badB_yes hbx with rfl | ⟨rfl, hne⟩
          · clear hbx
            go_wp2
            go_ret
            exact ⟨ret_bool (by rw [HH.out]; rfl), rfl⟩
          · clear hbx
            go_wp2
            go_ret
            exact ⟨ret_bool (by rw [HH.out]; rfl), rfl⟩
        · obtain ⟨h1, h2⟩ := badB_no hbx
          have HS : Hid ((s.data.toList.take (j + 1)).any badB = false) := by show _ = _; rw [hs1, hbx]; rfl
          clear hs1 hb hbx
          go_wp2
          go_round
          case rel => exact ⟨j + 1, by omega, by go_num, HS⟩
          case measure => simp [intOf]; omega
      · have hh : hasBad s = false := by
          have := hno.out
          rwa [List.take_of_length_le (by simp; omega)] at this
        have HH := Lib.hid hh
        clear hh
        go_wp2
        go_ret
        exact ⟨ret_bool (by rw [HH.out]; rfl), rfl⟩
  · have hval : sufOk s = false := by simp [sufOk, hsz]
    rw [hval]
    clear hval
    have hg : (255 : Int) < (s.size : Int) := by omega
    go_enter Try.func29, Try.ntmps29
    go_wp2
    go_ret
    exact ⟨rfl, rfl⟩
end Go.Proofs.Ytbigolappdlhcaa
