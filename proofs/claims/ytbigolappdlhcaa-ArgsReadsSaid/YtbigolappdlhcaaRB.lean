/- The reference's letters. -/
import Derived.Test.YtbigolappdlhcaaRA
namespace Go.Proofs.Ytbigolappdlhcaa
set_option linter.unusedSimpArgs false
set_option linter.unusedVariables false
open Go.RowKit

/-- What letters (or a long option) leave: the fault, a lacking argument, or the options that were read. -/
def LetPost (w : World) (base B : Nat) (lv : Value) (l : List ByteArray) (i : Nat) (R : Int × Bool × Av) (e : Ending) (w' : World) : Prop :=
  e = .returned (.tuple #[]) ∧ FrT TR base w w' ∧ ((R.2.1 = false ∧ ∃ at' a', RS w' base B lv at' (i : Int) a') ∨ (R.2.1 = true ∧ R.1 < 0 ∧ ∃ at' a', RS w' base B lv at' (l.length : Int) a') ∨ (R.2.1 = true ∧ 0 ≤ R.1 ∧ RS w' base B lv ((i : Int) + 1 + R.1) (-1) R.2.2))

/-- The state at the head of letters' loop. -/
def LI (w : World) (base B : Nat) (lv : Value) (s : ByteArray) (more : List ByteArray) (i : Nat) (R : Int × Bool × Av) (j : Nat) (wr : World) : Prop :=
  1 ≤ j ∧ j ≤ s.size ∧ FrT TR base w wr ∧ ((∃ a, RS wr base B lv ((i : Int) + 1) (-1) a ∧ a.scr.length ≤ 100000 ∧ shortF (tail1 s) more ((tail1 s).size - (j - 1)) a = R) ∨ (R.2.1 = false ∧ ∃ a, RS wr base B lv ((i : Int) + 1) (i : Int) a))

theorem tail1_size (s : ByteArray) : (tail1 s).size = s.size - 1 := by unfold tail1; rw [ByteArray.size_extract]; omega
theorem tail1_list (s : ByteArray) : (tail1 s).data.toList = s.data.toList.drop 1 := by
  unfold tail1
  rw [ba_extract, List.take_of_length_le (by simp)]
theorem tail1_get (s : ByteArray) (j : Nat) (hj : 1 ≤ j) (h : j < s.size) (h2 : j - 1 < (tail1 s).size) : (tail1 s)[j - 1]'h2 = s[j] := by
  have h3 : (tail1 s).data.toList[j - 1]'(by simpa using h2) = s.data.toList[j]'(by simpa using h) := by
    have e := tail1_list s
    have h4 : (s.data.toList.drop 1)[j - 1]? = s.data.toList[j]? := by rw [List.getElem?_drop]; congr 1; omega
    have h5 : (tail1 s).data.toList[j - 1]? = s.data.toList[j]? := by rw [e]; exact h4
    rw [List.getElem?_eq_getElem (by simpa using h2), List.getElem?_eq_getElem (by simpa using h)] at h5
    exact Option.some.inj h5
  exact h3
theorem behind_tail (s : ByteArray) (j : Nat) (hj : 1 ≤ j) (h : j < s.size) : behind (tail1 s) (j - 1) = s.extract (j + 1) s.size := by
  apply ba_ext
  unfold behind
  rw [ba_extract, ba_extract, tail1_list, tail1_size, List.take_of_length_le (by simp), List.take_of_length_le (by simp), List.drop_drop]
  congr 1
  omega

theorem letter_none {b : UInt8} (h : optOf (isLetter b) = none) : ((b.toNat : Int) == 110) = false ∧ ((b.toNat : Int) == 69) = false ∧ ((b.toNat : Int) == 114) = false ∧ ((b.toNat : Int) == 115) = false ∧ ((b.toNat : Int) == 101) = false ∧ ((b.toNat : Int) == 102) = false ∧ ((b.toNat : Int) == 105) = false := by
  have key : ∀ k : Nat, k < 6 → isLetter b k = false := by
    intro k hk
    rcases Bool.eq_false_or_eq_true (isLetter b k) with hh | hh
    · exfalso
      have : ∃ j, optOf (isLetter b) = some j := by
        unfold optOf
        rcases (show k = 0 ∨ k = 1 ∨ k = 2 ∨ k = 3 ∨ k = 4 ∨ k = 5 by omega) with rfl | rfl | rfl | rfl | rfl | rfl
        all_goals (rw [hh]; repeat' split)
        all_goals (first | exact ⟨_, rfl⟩ | simp_all)
      obtain ⟨j, hj⟩ := this
      rw [h] at hj; cases hj
    · exact hh
  have k0 := key 0 (by omega)
  have k1 := key 1 (by omega)
  have k2 := key 2 (by omega)
  have k3 := key 3 (by omega)
  have k4 := key 4 (by omega)
  have k5 := key 5 (by omega)
  simp only [isLetter, List.contains, List.elem] at k0 k1 k2 k3 k4 k5
  have ne : ∀ c : UInt8, (b == c) = false → ((b.toNat : Int) == (c.toNat : Int)) = false := by
    intro c hc
    simp only [beq_eq_false_iff_ne, ne_eq] at hc ⊢
    intro e
    exact hc (UInt8.toNat_inj.1 (by omega))
  refine ⟨ne 110 ?_, ne 69 ?_, ne 114 ?_, ne 115 ?_, ne 101 ?_, ne 102 ?_, ne 105 ?_⟩
  all_goals (revert k0 k1 k2 k3 k4 k5; repeat' split; all_goals simp_all)

theorem letter_some {b : UInt8} {k : Nat} (h : optOf (isLetter b) = some k) : (k = 0 ∧ b = 110) ∨ (k = 1 ∧ (b = 69 ∨ b = 114)) ∨ (k = 2 ∧ b = 115) ∨ (k = 3 ∧ b = 101) ∨ (k = 4 ∧ b = 102) ∨ (k = 5 ∧ b = 105) := by
  obtain ⟨hk, hp⟩ := optOf_lt h
  rcases (show k = 0 ∨ k = 1 ∨ k = 2 ∨ k = 3 ∨ k = 4 ∨ k = 5 by omega) with rfl | rfl | rfl | rfl | rfl | rfl
  all_goals (simp [isLetter] at hp; simp [hp])
end Go.Proofs.Ytbigolappdlhcaa
