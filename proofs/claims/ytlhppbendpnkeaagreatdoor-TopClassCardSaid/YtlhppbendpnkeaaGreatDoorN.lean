/- OnesCount64: the plain law. No program in sight. -/
import Derived.Test.YtlhppbendpnkeaaGreatDoorM
namespace Go.Proofs.YtlhppbendpnkeaaGreatDoor
set_option linter.unusedSimpArgs false
set_option linter.unusedVariables false

/-- A number by its digits, of s bits each. -/
def dg (d : Nat → Nat) (s : Nat) : Nat → Nat
  | 0 => 0
  | n + 1 => dg d s n + d n * 2 ^ (s * n)
def sumN (d : Nat → Nat) : Nat → Nat
  | 0 => 0
  | n + 1 => sumN d n + d n
theorem dg_lt {d : Nat → Nat} {s : Nat} (h : ∀ i, d i < 2 ^ s) : ∀ n, dg d s n < 2 ^ (s * n) := by
  intro n
  induction n with
  | zero => simp [dg]
  | succ n ih =>
    rw [dg, Nat.mul_succ, Nat.pow_add]
    have h1 : d n + 1 ≤ 2 ^ s := h n
    have h2 := Nat.mul_le_mul_right (2 ^ (s * n)) h1
    rw [Nat.add_mul, Nat.one_mul] at h2
    rw [Nat.mul_comm (2 ^ (s * n))]
    omega
theorem dg_add (d e : Nat → Nat) (s : Nat) : ∀ n, dg d s n + dg e s n = dg (fun i => d i + e i) s n := by
  intro n
  induction n with
  | zero => rfl
  | succ n ih => rw [dg, dg, dg, ← ih, Nat.add_mul]; omega
theorem dg_head (d : Nat → Nat) (s : Nat) : ∀ n, dg d s (n + 1) = d 0 + 2 ^ s * dg (fun i => d (i + 1)) s n := by
  intro n
  induction n with
  | zero => simp [dg]
  | succ n ih =>
    have e : s * (n + 1) = s + s * n := by rw [Nat.mul_succ]; omega
    rw [dg, ih, dg, Nat.mul_add (2 ^ s), e, Nat.pow_add, Nat.mul_left_comm (2 ^ s) (d (n + 1)), Nat.add_assoc]
theorem dg_shift {d : Nat → Nat} {s m : Nat} (h0 : d 0 < 2 ^ s) (hz : d m = 0) : dg d s m / 2 ^ s = dg (fun i => d (i + 1)) s m := by
  have e : dg d s m = dg d s (m + 1) := by rw [dg, hz]; omega
  rw [e, dg_head, Nat.add_mul_div_left _ _ (Nat.two_pow_pos s), Nat.div_eq_of_lt h0, Nat.zero_add]
theorem dg_congr {d e : Nat → Nat} {s n : Nat} (h : ∀ i, i < n → d i = e i) : dg d s n = dg e s n := by
  induction n with
  | zero => rfl
  | succ n ih => rw [dg, dg, ih (fun i hi => h i (by omega)), h n (by omega)]
theorem dg_bit {d : Nat → Nat} {s : Nat} (hs : 0 < s) (h : ∀ i, d i < 2 ^ s) : ∀ n k, (dg d s n).testBit k = (decide (k < s * n) && (d (k / s)).testBit (k % s)) := by
  intro n
  induction n with
  | zero => intro k; simp [dg]
  | succ n ih =>
    intro k
    have hl := dg_lt h n
    rw [dg, Nat.add_comm, Nat.mul_comm (d n), Nat.testBit_two_pow_mul_add _ hl]
    by_cases hk : k < s * n
    · rw [if_pos hk, ih]
      have : k < s * (n + 1) := by rw [Nat.mul_succ]; omega
      simp [hk, this]
    · rw [if_neg hk]
      by_cases hk2 : k < s * (n + 1)
      · rw [Nat.mul_succ] at hk2
        have hdiv : k / s = n := Nat.div_eq_of_lt_le (by rw [Nat.mul_comm]; omega) (by rw [Nat.succ_mul, Nat.mul_comm]; omega)
        have hmod : k % s = k - s * n := by rw [Nat.mod_eq_sub_mul_div, hdiv]
        have : k < s * (n + 1) := by rw [Nat.mul_succ]; omega
        rw [hdiv, hmod]
        simp [this]
      · have : s ≤ k - s * n := by rw [Nat.mul_succ] at hk2; omega
        rw [Nat.testBit_lt_two_pow (Nat.lt_of_lt_of_le (h n) (Nat.pow_le_pow_right (by decide) this))]
        simp [hk2]
theorem dg_mask {d : Nat → Nat} {s n : Nat} (hs : 0 < s) (h : ∀ i, d i < 2 ^ s) (hd : ∀ k, k % (2 * s) < s → k / s = 2 * (k / (2 * s)) ∧ k % s = k % (2 * s)) :
    dg d s (2 * n) &&& dg (fun _ => 2 ^ s - 1) (2 * s) n = dg (fun i => d (2 * i)) (2 * s) n := by
  have hm : 2 ^ s - 1 < 2 ^ (2 * s) := Nat.lt_of_lt_of_le (by have := Nat.two_pow_pos s; omega : 2 ^ s - 1 < 2 ^ s) (Nat.pow_le_pow_right (by decide) (by omega))
  have h2 : ∀ i, d (2 * i) < 2 ^ (2 * s) := fun i => Nat.lt_of_lt_of_le (h _) (Nat.pow_le_pow_right (by decide) (by omega))
  apply Nat.eq_of_testBit_eq
  intro k
  rw [Nat.testBit_and, dg_bit hs h, dg_bit (by omega) (fun _ => hm), dg_bit (by omega) h2, Nat.testBit_two_pow_sub_one]
  have e : s * (2 * n) = 2 * s * n := by rw [Nat.mul_left_comm, Nat.mul_assoc]
  rw [e]
  by_cases hk : k < 2 * s * n
  · by_cases hj : k % (2 * s) < s
    · obtain ⟨e1, e2⟩ := hd k hj
      rw [e1, e2]
      simp [hk, hj]
    · have : (d (2 * (k / (2 * s)))).testBit (k % (2 * s)) = false := Nat.testBit_lt_two_pow (Nat.lt_of_lt_of_le (h _) (Nat.pow_le_pow_right (by decide) (by omega)))
      rw [this]
      simp [hj]
  · simp [hk]
theorem sum_pair (d : Nat → Nat) : ∀ n, sumN d (2 * n) = sumN (fun i => d (2 * i) + d (2 * i + 1)) n := by
  intro n
  induction n with
  | zero => rfl
  | succ n ih => rw [sumN, ← ih, Nat.mul_succ, sumN, sumN]; omega
def bitD (g : Nat → Bool) : Nat → Nat := fun i => if i < 64 ∧ g i = true then 1 else 0
def pairD (d : Nat → Nat) : Nat → Nat := fun i => d (2 * i) + d (2 * i + 1)
theorem word_dg (g : Nat → Bool) : wordN g 64 = dg (bitD g) 1 64 := by
  have key : ∀ n, wordN g n = dg (fun i => if g i then 1 else 0) 1 n := by
    intro n
    induction n with
    | zero => rfl
    | succ n ih => rw [wordN, dg, ih, Nat.one_mul]; cases g n <;> simp
  rw [key]
  exact dg_congr (fun i hi => by simp [bitD, hi])
/-- How many of the first n are in. -/
def cntN (g : Nat → Bool) (n : Nat) : Nat := sumN (fun i => if g i then 1 else 0) n
theorem sumN_congr {d e : Nat → Nat} {n : Nat} (h : ∀ i, i < n → d i = e i) : sumN d n = sumN e n := by
  induction n with
  | zero => rfl
  | succ n ih => rw [sumN, sumN, ih (fun i hi => h i (by omega)), h n (by omega)]
theorem cnt_bitD (g : Nat → Bool) : sumN (bitD g) 64 = cntN g 64 := sumN_congr (fun i hi => by simp [bitD, hi])

/-- The digits of the three first steps. -/
def d1 (g : Nat → Bool) : Nat → Nat := pairD (bitD g)
def d2 (g : Nat → Bool) : Nat → Nat := pairD (d1 g)
def d3 (g : Nat → Bool) : Nat → Nat := pairD (d2 g)
theorem bitD_le (g i) : bitD g i ≤ 1 := by unfold bitD; split <;> omega
theorem d1_le (g i) : d1 g i ≤ 2 := by have := bitD_le g (2 * i); have := bitD_le g (2 * i + 1); simp only [d1, pairD]; omega
theorem d2_le (g i) : d2 g i ≤ 4 := by have := d1_le g (2 * i); have := d1_le g (2 * i + 1); simp only [d2, pairD]; omega
theorem d3_le (g i) : d3 g i ≤ 8 := by have := d2_le g (2 * i); have := d2_le g (2 * i + 1); simp only [d3, pairD]; omega
theorem bitD_z (g i) (h : 64 ≤ i) : bitD g i = 0 := by unfold bitD; rw [if_neg (by omega)]
theorem d1_z (g i) (h : 32 ≤ i) : d1 g i = 0 := by simp only [d1, pairD, bitD_z g (2 * i) (by omega), bitD_z g (2 * i + 1) (by omega)]
theorem d2_z (g i) (h : 16 ≤ i) : d2 g i = 0 := by simp only [d2, pairD, d1_z g (2 * i) (by omega), d1_z g (2 * i + 1) (by omega)]
def x1 (g : Nat → Bool) : Nat := dg (d1 g) 2 32
def x2 (g : Nat → Bool) : Nat := dg (d2 g) 4 16
def x3 (g : Nat → Bool) : Nat := dg (d3 g) 8 8
def a1 (g : Nat → Bool) : Nat := dg (fun i => bitD g (2 * i + 1)) 2 32
def b1 (g : Nat → Bool) : Nat := dg (fun i => bitD g (2 * i)) 2 32
def a2 (g : Nat → Bool) : Nat := dg (fun i => d1 g (2 * i + 1)) 4 16
def b2 (g : Nat → Bool) : Nat := dg (fun i => d1 g (2 * i)) 4 16
theorem step1a (g : Nat → Bool) : wordN g 64 / 2 &&& 6148914691236517205 = a1 g := by
  have hm : 6148914691236517205 = dg (fun _ => 2 ^ 1 - 1) (2 * 1) 32 := by decide
  have hs := dg_shift (d := bitD g) (s := 1) (m := 64) (by have := bitD_le g 0; omega) (bitD_z g 64 (by omega))
  rw [word_dg, hm]
  rw [Nat.pow_one] at hs
  rw [hs]
  exact dg_mask (n := 32) (by decide) (fun i => by have := bitD_le g (i + 1); omega) (fun k h => by omega)
theorem step1b (g : Nat → Bool) : wordN g 64 &&& 6148914691236517205 = b1 g := by
  have hm : 6148914691236517205 = dg (fun _ => 2 ^ 1 - 1) (2 * 1) 32 := by decide
  rw [word_dg, hm]
  exact dg_mask (n := 32) (by decide) (fun i => by have := bitD_le g i; omega) (fun k h => by omega)
theorem step1 (g : Nat → Bool) : a1 g + b1 g = x1 g := by
  unfold a1 b1 x1
  rw [dg_add]
  exact dg_congr (fun i _ => by simp only [d1, pairD]; omega)
theorem step2a (g : Nat → Bool) : x1 g / 4 &&& 3689348814741910323 = a2 g := by
  have hm : 3689348814741910323 = dg (fun _ => 2 ^ 2 - 1) (2 * 2) 16 := by decide
  have hs := dg_shift (d := d1 g) (s := 2) (m := 32) (by have := d1_le g 0; omega) (d1_z g 32 (by omega))
  change _ / 4 = _ at hs
  rw [x1, hm, hs]
  exact dg_mask (n := 16) (by decide) (fun i => by have := d1_le g (i + 1); omega) (fun k h => by omega)
theorem step2b (g : Nat → Bool) : x1 g &&& 3689348814741910323 = b2 g := by
  have hm : 3689348814741910323 = dg (fun _ => 2 ^ 2 - 1) (2 * 2) 16 := by decide
  rw [x1, hm]
  exact dg_mask (n := 16) (by decide) (fun i => by have := d1_le g i; omega) (fun k h => by omega)
theorem step2 (g : Nat → Bool) : a2 g + b2 g = x2 g := by
  unfold a2 b2 x2
  rw [dg_add]
  exact dg_congr (fun i _ => by simp only [d2, pairD]; omega)
theorem step3 (g : Nat → Bool) : (x2 g / 16 + x2 g) &&& 1085102592571150095 = x3 g := by
  have hm : 1085102592571150095 = dg (fun _ => 2 ^ 4 - 1) (2 * 4) 8 := by decide
  have hs := dg_shift (d := d2 g) (s := 4) (m := 16) (by have := d2_le g 0; omega) (d2_z g 16 (by omega))
  change _ / 16 = _ at hs
  rw [x2, hm, hs, dg_add]
  refine (dg_mask (n := 8) (by decide) (fun i => by have := d2_le g (i + 1); have := d2_le g i; omega) (fun k h => by omega)).trans ?_
  exact dg_congr (fun i _ => by simp only [d3, pairD]; omega)
theorem x3_sum (g : Nat → Bool) : ∃ c0 c1 c2 c3 c4 c5 c6 c7 : Nat, c0 ≤ 8 ∧ c1 ≤ 8 ∧ c2 ≤ 8 ∧ c3 ≤ 8 ∧ c4 ≤ 8 ∧ c5 ≤ 8 ∧ c6 ≤ 8 ∧ c7 ≤ 8 ∧
    x3 g = c0 + c1 * 256 + c2 * 65536 + c3 * 16777216 + c4 * 4294967296 + c5 * 1099511627776 + c6 * 281474976710656 + c7 * 72057594037927936 ∧ cntN g 64 = c0 + c1 + c2 + c3 + c4 + c5 + c6 + c7 := by
  refine ⟨d3 g 0, d3 g 1, d3 g 2, d3 g 3, d3 g 4, d3 g 5, d3 g 6, d3 g 7, d3_le _ _, d3_le _ _, d3_le _ _, d3_le _ _, d3_le _ _, d3_le _ _, d3_le _ _, d3_le _ _, ?_, ?_⟩
  · simp only [x3, dg, Nat.zero_add, Nat.mul_zero, Nat.pow_zero, Nat.mul_one, Nat.reduceMul, Nat.reducePow]
  · rw [← cnt_bitD, show (64 : Nat) = 2 * 32 from rfl, sum_pair]
    show sumN (d1 g) 32 = _
    rw [show (32 : Nat) = 2 * 16 from rfl, sum_pair]
    show sumN (d2 g) 16 = _
    rw [show (16 : Nat) = 2 * 8 from rfl, sum_pair]
    show sumN (d3 g) 8 = _
    simp only [sumN, Nat.zero_add]
theorem x1_lt (g : Nat → Bool) : x1 g < 18446744073709551616 := dg_lt (s := 2) (fun i => by have := d1_le g i; omega) 32
theorem x2_lt (g : Nat → Bool) : x2 g ≤ 4919131752989213764 := by
  have h : ∀ n, dg (d2 g) 4 n ≤ dg (fun _ => 4) 4 n := by
    intro n
    induction n with
    | zero => exact Nat.le_refl _
    | succ n ih => rw [dg, dg]; exact Nat.add_le_add ih (Nat.mul_le_mul_right _ (d2_le g n))
  have e : dg (fun _ => 4) 4 16 = 4919131752989213764 := by decide
  have := h 16
  rw [e] at this
  exact this
end Go.Proofs.YtlhppbendpnkeaaGreatDoor
