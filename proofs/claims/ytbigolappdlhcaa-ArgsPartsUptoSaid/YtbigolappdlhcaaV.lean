/- What Read computes. -/
import Derived.Test.YtbigolappdlhcaaU
namespace Go.Proofs.Ytbigolappdlhcaa
set_option linter.unusedSimpArgs false
set_option linter.unusedVariables false
open Go.RowKit

def tail1 (s : ByteArray) : ByteArray := s.extract 1 s.size
def tail2 (s : ByteArray) : ByteArray := ⟨(Lib.trimPrefix s.data.toList [45, 45]).toArray⟩
/-- What an argument is: 0: --; 1: a name; 2: a long option; 3: letters. -/
def kind (s : ByteArray) : Nat :=
  if s = ⟨#[45, 45]⟩ then 0 else if s = ⟨#[45]⟩ then 1 else if Lib.hasPrefix s.data.toList [45] = false then 1 else if Lib.hasPrefix s.data.toList [45, 45] then 2 else 3

/-- The arguments from the i-th on: the one at fault, or the first name and the options. -/
def readW (l : List ByteArray) (i : Nat) (a : Av) : Sum Nat (Nat × Av) :=
  if h : i < l.length then
    (if kind l[i] = 0 then .inr (i + 1, a)
    else if kind l[i] = 1 then .inr (i, a)
    else if kind l[i] = 2 then (match longL a (tail2 l[i]) with | none => .inl i | some a' => readW l (i + 1) a')
    else if (shortF (tail1 l[i]) (l.drop (i + 1)) (tail1 l[i]).size a).2.1 = false then .inl i
    else if (shortF (tail1 l[i]) (l.drop (i + 1)) (tail1 l[i]).size a).1 < 0 then .inl l.length
    else readW l (i + 1 + (shortF (tail1 l[i]) (l.drop (i + 1)) (tail1 l[i]).size a).1.toNat) (shortF (tail1 l[i]) (l.drop (i + 1)) (tail1 l[i]).size a).2.2)
  else .inr (i, a)
termination_by l.length - i
decreasing_by all_goals omega

def zeroAv : Av := ⟨false, false, false, false, ⟨#[]⟩, [], []⟩
/-- The end: pieces and names. -/
def endW (l : List ByteArray) : Sum Nat (Nat × Av) → Option Av × Int × Nat
  | .inl k => (none, 260, k)
  | .inr (i, a) => if a.scr = [] then (match l.drop i with | [] => (none, 260, l.length) | t :: r => (some { a with scr := [(false, t)], nam := r }, 0, 0)) else (some { a with nam := l.drop i }, 0, 0)
/-- What Read answers. -/
def readL (l : List ByteArray) : Option Av × Int × Nat := if 65536 < l.length then (none, 3, 0) else endW l (readW l 0 zeroAv)

theorem longL_scr {a a' : Av} {s : ByteArray} (h : longL a s = some a') : a'.scr.length ≤ a.scr.length + 1 ∧ a'.nam = a.nam := by
  unfold longL at h
  split at h
  · cases h
  · rename_i k hk
    have hlt := (optOf_lt hk).1
    split at h
    · simp only [Option.some.injEq] at h
      subst h
      rcases (show k = 0 ∨ k = 1 ∨ k = 2 ∨ k = 3 ∨ k = 4 ∨ k = 5 by omega) with rfl | rfl | rfl | rfl | rfl | rfl <;> simp [doOpt]
    · cases h
theorem doOpt_le (a : Av) (s : ByteArray) (k : Nat) (h : k < 6) : (doOpt a s k).scr.length ≤ a.scr.length + 1 ∧ (doOpt a s k).nam = a.nam := by
  rcases (show k = 0 ∨ k = 1 ∨ k = 2 ∨ k = 3 ∨ k = 4 ∨ k = 5 by omega) with rfl | rfl | rfl | rfl | rfl | rfl <;> simp [doOpt]
theorem valF_scr (more : List ByteArray) (rs : ByteArray) (a : Av) (k : Nat) (h : k < 6) : (valF more rs a k).2.2.scr.length ≤ a.scr.length + 1 ∧ (valF more rs a k).2.2.nam = a.nam ∧ ((valF more rs a k).1 ≤ 0 ∨ ((valF more rs a k).1 = 1 ∧ more ≠ [])) ∧ -1 ≤ (valF more rs a k).1 := by
  by_cases hz : rs.size = 0
  · cases more with
    | nil => rw [valF_nil hz]; simp
    | cons m r => rw [valF_cons hz]; have := doOpt_le a m k h; exact ⟨this.1, this.2, .inr ⟨rfl, by simp⟩, by show (-1 : Int) ≤ 1; omega⟩
  · rw [valF_rest more hz]; have := doOpt_le a rs k h; exact ⟨this.1, this.2, .inl (by show (0 : Int) ≤ 0; omega), by show (-1 : Int) ≤ 0; omega⟩
theorem shortF_scr (s : ByteArray) (more : List ByteArray) : ∀ (n : Nat) (a : Av), (shortF s more n a).2.2.scr.length ≤ a.scr.length + 1 ∧ (shortF s more n a).2.2.nam = a.nam ∧ ((shortF s more n a).1 ≤ 0 ∨ ((shortF s more n a).1 = 1 ∧ more ≠ [])) ∧ -1 ≤ (shortF s more n a).1 := by
  intro n
  induction n with
  | zero => intro a; simp [shortF]
  | succ n ih =>
    intro a
    rw [shortF]
    split
    · simp
    · rename_i k hk
      have hlt := (optOf_lt hk).1
      split
      · split
        · have := doOpt_le a (behind s (s.size - (n + 1))) k hlt
          exact ⟨this.1, this.2, .inl (by show (0 : Int) ≤ 0; omega), by show (-1 : Int) ≤ 0; omega⟩
        · simp
      · split
        · exact valF_scr more _ a k hlt
        · rename_i h1 h2
          have h3 : k < 3 := by
            simp only [sufx, valued] at h1 h2
            simp at h1 h2
            omega
          have := ih (doOpt a ⟨#[]⟩ k)
          rw [doOpt_scr _ _ _ h3] at this
          rw [(doOpt_le a ⟨#[]⟩ k hlt).2] at this
          exact this
end Go.Proofs.Ytbigolappdlhcaa
