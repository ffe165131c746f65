/- sets: element; what Print writes. -/
import Derived.Test.YtlhppbendpnkeaaGreatDoorQ
namespace Go.Proofs.YtlhppbendpnkeaaGreatDoor
set_option linter.unusedSimpArgs false
set_option linter.unusedVariables false
open Go.RowKit

def specB (c : Nat) : Prop := c = 91 ∨ c = 93 ∨ c = 94 ∨ c = 45 ∨ c = 92 ∨ c = 10
instance (c : Nat) : Decidable (specB c) := by unfold specB; infer_instance
def elemB (c : Nat) : Bs := if specB c then [91, 46, UInt8.ofNat c, 46, 93] else [UInt8.ofNat c]
/-- How many of l go on behind x. -/
def runE (x : Nat) : List Nat → Nat
  | [] => 0
  | y :: r => if y = x + 1 then runE y r + 1 else 0
theorem runE_le (x : Nat) (l : List Nat) : runE x l ≤ l.length := by
  induction l generalizing x with
  | nil => exact Nat.le_refl _
  | cons y r ih =>
    rw [runE]
    split
    · have := ih y; simp; omega
    · omega
def partB (x k : Nat) : Bs := if k = 0 then elemB x else if k = 1 then elemB x ++ elemB (x + 1) else elemB x ++ 45 :: elemB (x + k)
/-- The parts of a rising list. -/
def printL : Nat → List Nat → Bs
  | 0, _ => []
  | _ + 1, [] => []
  | n + 1, x :: r => partB x (runE x r) ++ printL n (r.drop (runE x r))
theorem printL_fuel (n m : Nat) (l : List Nat) (hn : l.length ≤ n) (hm : l.length ≤ m) : printL n l = printL m l := by
  induction n generalizing m l with
  | zero =>
    have : l = [] := List.length_eq_zero_iff.1 (by omega)
    subst this
    cases m <;> rfl
  | succ n ih =>
    cases l with
    | nil => cases m <;> rfl
    | cons x r =>
      cases m with
      | zero => simp at hm
      | succ m =>
        rw [printL, printL]
        congr 1
        apply ih
        · rw [List.length_drop]; simp at hn; omega
        · rw [List.length_drop]; simp at hm; omega
def partsL (l : List Nat) : Bs := printL l.length l
theorem partsL_nil : partsL [] = [] := rfl
theorem partsL_cons (x : Nat) (r : List Nat) : partsL (x :: r) = partB x (runE x r) ++ partsL (r.drop (runE x r)) := by
  unfold partsL
  rw [List.length_cons, printL]
  congr 1
  exact printL_fuel _ _ _ (by rw [List.length_drop]; omega) (Nat.le_refl _)

theorem toNat_byte {c : Nat} (h : c < 256) : (UInt8.ofNat c).toNat = c := by simp [UInt8.toNat_ofNat']; omega

set_option maxHeartbeats 1600000 in
theorem element_any (c : Nat) (hc : c < 256) (w : World) :
    Calls Tryz.prog 13 #[.int .u8 (c : Int)] w fun e w' => e = .returned (.string ⟨(elemB c).toArray⟩) ∧ Below w.heap.size w w' := by
  have hb := toNat_byte hc
  have HV := Lib.hid (fun W => conv_lit W [UInt8.ofNat c] #[.int .u8 (c : Int)] 1 rfl (by simp [hb]))
  by_cases hs : specB c
  · have he : Hid (elemB c = [91, 46, UInt8.ofNat c, 46, 93]) := by show _ = _; unfold elemB; rw [if_pos hs]
    rw [he.out]
    unfold specB at hs
    have hv := HV.out
    clear he HV hb
    rcases hs with hs | hs | hs | hs | hs | hs
    · have n0 : ((c : Int) == 91) = true := by simp; omega
      clear hs
      go_enter Tryz.func13, Tryz.ntmps13
      go_wp2_with fail
      go_ret
      exact ⟨rfl, by go_grown⟩
    · have n0 : ((c : Int) == 91) = false := by simp; omega
      have m0 : ¬ (c : Int) = 91 := by omega
      have n1 : ((c : Int) == 93) = true := by simp; omega
      clear hs
      go_enter Tryz.func13, Tryz.ntmps13
      go_wp2_with fail
      go_ret
      exact ⟨rfl, by go_grown⟩
    · have n0 : ((c : Int) == 91) = false := by simp; omega
      have m0 : ¬ (c : Int) = 91 := by omega
      have n1 : ((c : Int) == 93) = false := by simp; omega
      have m1 : ¬ (c : Int) = 93 := by omega
      have n2 : ((c : Int) == 94) = true := by simp; omega
      clear hs
      go_enter Tryz.func13, Tryz.ntmps13
      go_wp2_with fail
      go_ret
      exact ⟨rfl, by go_grown⟩
    · have n0 : ((c : Int) == 91) = false := by simp; omega
      have m0 : ¬ (c : Int) = 91 := by omega
      have n1 : ((c : Int) == 93) = false := by simp; omega
      have m1 : ¬ (c : Int) = 93 := by omega
      have n2 : ((c : Int) == 94) = false := by simp; omega
      have m2 : ¬ (c : Int) = 94 := by omega
      have n3 : ((c : Int) == 45) = true := by simp; omega
      clear hs
      go_enter Tryz.func13, Tryz.ntmps13
      go_wp2_with fail
      go_ret
      exact ⟨rfl, by go_grown⟩
    · have n0 : ((c : Int) == 91) = false := by simp; omega
      have m0 : ¬ (c : Int) = 91 := by omega
      have n1 : ((c : Int) == 93) = false := by simp; omega
      have m1 : ¬ (c : Int) = 93 := by omega
      have n2 : ((c : Int) == 94) = false := by simp; omega
      have m2 : ¬ (c : Int) = 94 := by omega
      have n3 : ((c : Int) == 45) = false := by simp; omega
      have m3 : ¬ (c : Int) = 45 := by omega
      have n4 : ((c : Int) == 92) = true := by simp; omega
      clear hs
      go_enter Tryz.func13, Tryz.ntmps13
      go_wp2_with fail
      go_ret
      exact ⟨rfl, by go_grown⟩
    · have n0 : ((c : Int) == 91) = false := by simp; omega
      have m0 : ¬ (c : Int) = 91 := by omega
      have n1 : ((c : Int) == 93) = false := by simp; omega
      have m1 : ¬ (c : Int) = 93 := by omega
      have n2 : ((c : Int) == 94) = false := by simp; omega
      have m2 : ¬ (c : Int) = 94 := by omega
      have n3 : ((c : Int) == 45) = false := by simp; omega
      have m3 : ¬ (c : Int) = 45 := by omega
      have n4 : ((c : Int) == 92) = false := by simp; omega
      have m4 : ¬ (c : Int) = 92 := by omega
      have n5 : ((c : Int) == 10) = true := by simp; omega
      clear hs
      go_enter Tryz.func13, Tryz.ntmps13
      go_wp2_with fail
      go_ret
      exact ⟨rfl, by go_grown⟩
  · have he : Hid (elemB c = [UInt8.ofNat c]) := by show _ = _; unfold elemB; rw [if_neg hs]
    rw [he.out]
    unfold specB at hs
    have n1 : ((c : Int) == 91) = false := by simp; omega
    have n2 : ((c : Int) == 93) = false := by simp; omega
    have n3 : ((c : Int) == 94) = false := by simp; omega
    have n4 : ((c : Int) == 45) = false := by simp; omega
    have n5 : ((c : Int) == 92) = false := by simp; omega
    have n6 : ((c : Int) == 10) = false := by simp; omega
    have m1 : ¬ (c : Int) = 91 := by omega
    have m2 : ¬ (c : Int) = 93 := by omega
    have m3 : ¬ (c : Int) = 94 := by omega
    have m4 : ¬ (c : Int) = 45 := by omega
    have m5 : ¬ (c : Int) = 92 := by omega
    have m6 : ¬ (c : Int) = 10 := by omega
    have hv := HV.out
    clear he HV hb hs
    go_enter Tryz.func13, Tryz.ntmps13
    go_wp2_with fail
    go_ret
    exact ⟨rfl, by go_grown⟩
end Go.Proofs.YtlhppbendpnkeaaGreatDoor
