/- How long what sets.Print writes is: plain. -/
import Derived.Test.YtlhppbendpnkeaaGreatDoorY
namespace Go.Proofs.YtlhppbendpnkeaaGreatDoor
set_option linter.unusedSimpArgs false
set_option linter.unusedVariables false

theorem elemB_le (c : Nat) : (elemB c).length ≤ 5 := by unfold elemB; split <;> simp
theorem partB_le (x k : Nat) : (partB x k).length ≤ 11 * (k + 1) := by
  have h1 := elemB_le x
  have h2 := elemB_le (x + 1)
  have h3 := elemB_le (x + k)
  unfold partB
  split
  · omega
  · split
    · rw [List.length_append]; omega
    · rw [List.length_append, List.length_cons]; omega
theorem printL_le : ∀ (n : Nat) (l : List Nat), (printL n l).length ≤ 11 * l.length := by
  intro n
  induction n with
  | zero => intro l; simp [printL]
  | succ n ih =>
    intro l
    cases l with
    | nil => simp [printL]
    | cons x r =>
      have h1 := ih (r.drop (runE x r))
      have h2 := partB_le x (runE x r)
      have h3 := runE_le x r
      rw [printL, List.length_append, List.length_cons]
      rw [List.length_drop] at h1
      omega
theorem printS_le (f : Nat → Bool) : (printS f).length ≤ 2820 := by
  have h1 := printL_le (natL f 256).length (natL f 256)
  have h2 := natL_le f 256
  have h3 := printL_le (natL (fun c => !f c) 256).length (natL (fun c => !f c) 256)
  have h4 := natL_le (fun c => !f c) 256
  unfold printS partsL
  split
  · rw [List.length_cons, List.length_append]; simp; omega
  · rw [List.length_append]; simp; omega
end Go.Proofs.YtlhppbendpnkeaaGreatDoor
