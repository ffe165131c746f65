/- Texts of one chain, merged by a small program (V, J, K, L). -/
import Derived.Test.YtlhppbendpnkeaaGreatDoorT
import Derived.Laws.BitsAllLaws
import Derived.Handy
/- begins. -/
namespace Go.Proofs.YtlhppbendpnkeaaGreatDoor
set_option linter.unusedSimpArgs false
set_option linter.unusedVariables false
open Go.RowKit


set_option maxRecDepth 100000 in
set_option maxHeartbeats 3200000 in
theorem begins_any (w : World) (hs : Sh w) :
    Calls Tryz.prog 4 #[] w fun e w' => e = .returned (.bool true) ∧ Below w.heap.size w w' := by
  have HN := Lib.hid (Normal_any ⟨#[47, 97, 47, 46, 47, 98, 47, 47, 99, 47, 46, 46, 47, 100]⟩ w (by decide) (by decide) (by rfl) (by decide) (by decide) (by decide))
  have HQ := Lib.hid (fun W (hb : Below w.heap.size w W) => Quote_any ⟨#[97, 10]⟩ W (hs.to hb) (by decide))
  have hq : (⟨(quote (⟨#[97, 10]⟩ : ByteArray).data.toList).toArray⟩ : ByteArray) = ⟨#[34, 97, 92, 110, 34]⟩ := rfl
  rw [hq] at HQ
  clear hs hq
  go_enter Tryz.func4, Tryz.ntmps4
  go_wp2_with fail
  refine HN.out.mono ?_
  rintro e w1 ⟨⟨v, b, rfl, ht⟩, hb⟩
  have HB := Lib.hid hb
  have HT := Lib.hid ht
  clear hb
  have hT : Tx w1 v [⟨#[97]⟩, ⟨#[98]⟩, ⟨#[100]⟩] := ht
  obtain ⟨ao, cap, rfl, -, hc⟩ := hT
  obtain ⟨B, off, rfl, hB, hcc⟩ := hc (by decide)
  have c2 := hcc 2 (by decide)
  clear hc hcc ht
  go_wp2_with fail
  refine (HQ.out _ HB.out).mono ?_
  rintro e w2 ⟨rfl, hb⟩
  have HB2 := Lib.hid (bl_to HB.out hb)
  clear hb
  go_wp2_with fail
  go_ret
  exact ⟨rfl, HB2.out⟩
end Go.Proofs.YtlhppbendpnkeaaGreatDoor
/- Sets as predicates: plain laws of their words. No program in sight. -/
namespace Go.Proofs.YtlhppbendpnkeaaGreatDoor
set_option linter.unusedSimpArgs false
set_option linter.unusedVariables false

/-- The number whose bits below n are g's. -/
def wordN (g : Nat → Bool) : Nat → Nat
  | 0 => 0
  | n + 1 => wordN g n + (if g n then 2 ^ n else 0)
theorem wordN_lt (g : Nat → Bool) : ∀ n, wordN g n < 2 ^ n := by
  intro n
  induction n with
  | zero => simp [wordN]
  | succ n ih =>
    rw [wordN, Nat.pow_succ]
    split <;> omega
theorem testBit_wordN (g : Nat → Bool) : ∀ n k, (wordN g n).testBit k = (decide (k < n) && g k) := by
  intro n
  induction n with
  | zero => intro k; simp [wordN]
  | succ n ih =>
    intro k
    have hl := wordN_lt g n
    rw [wordN]
    by_cases hg : g n = true
    · rw [if_pos hg, Nat.add_comm]
      rcases Nat.lt_trichotomy k n with h | h | h
      · rw [Nat.testBit_two_pow_add_gt h, ih]
        simp [h, Nat.lt_succ_of_lt h]
      · subst h
        rw [Nat.testBit_two_pow_add_eq, ih]
        simp [hg]
      · rw [Nat.testBit_lt_two_pow]
        · simp [show ¬ k < n + 1 by omega]
        · have : 2 ^ (n + 1) ≤ 2 ^ k := Nat.pow_le_pow_right (by decide) (by omega)
          rw [Nat.pow_succ] at this
          omega
    · rw [if_neg hg, Nat.add_zero, ih]
      have hg' : g n = false := by simpa using hg
      rcases Nat.lt_trichotomy k n with h | h | h
      · simp [h, Nat.lt_succ_of_lt h]
      · subst h; simp [hg']
      · simp [show ¬ k < n by omega, show ¬ k < n + 1 by omega]
theorem wordN_eq {g : Nat → Bool} {n x : Nat} (hx : x < 2 ^ n) (h : ∀ k, k < n → x.testBit k = g k) : x = wordN g n := by
  apply Nat.eq_of_testBit_eq
  intro k
  rw [testBit_wordN]
  by_cases hk : k < n
  · simp [hk, h k hk]
  · rw [Nat.testBit_lt_two_pow (Nat.lt_of_lt_of_le hx (Nat.pow_le_pow_right (by decide) (by omega)))]
    simp [hk]
theorem wordN_congr {g h : Nat → Bool} {n : Nat} (e : ∀ k, k < n → g k = h k) : wordN g n = wordN h n :=
  wordN_eq (wordN_lt g n) (fun k hk => by rw [testBit_wordN]; simp [hk, e k hk])
theorem wordN_or (g h : Nat → Bool) (n : Nat) : wordN g n ||| wordN h n = wordN (fun k => g k || h k) n :=
  wordN_eq (Nat.or_lt_two_pow (wordN_lt _ _) (wordN_lt _ _)) (fun k hk => by rw [Nat.testBit_or, testBit_wordN, testBit_wordN]; simp [hk])
theorem wordN_and (g h : Nat → Bool) (n : Nat) : wordN g n &&& wordN h n = wordN (fun k => g k && h k) n :=
  wordN_eq (Nat.and_lt_two_pow _ (wordN_lt _ _)) (fun k hk => by rw [Nat.testBit_and, testBit_wordN, testBit_wordN]; simp [hk])
theorem wordN_not (g : Nat → Bool) (n : Nat) : 2 ^ n - 1 - wordN g n = wordN (fun k => !g k) n := by
  have hl := wordN_lt g n
  refine wordN_eq (by omega) (fun k hk => ?_)
  have e : 2 ^ n - 1 - wordN g n = 2 ^ n - (wordN g n + 1) := by omega
  rw [e, Nat.testBit_two_pow_sub_succ hl, testBit_wordN]
  simp [hk]
theorem wordN_bit {k n : Nat} (h : k < n) : 2 ^ k = wordN (fun j => decide (j = k)) n :=
  wordN_eq (Nat.pow_lt_pow_right (by decide) h) (fun j hj => by
    rw [Nat.testBit_two_pow]
    by_cases e : k = j
    · simp [e]
    · simp [e]; exact fun h => e h.symm)

/-- The i-th word of a set. -/
def sW (f : Nat → Bool) (i : Nat) : Nat := wordN (fun k => f (64 * i + k)) 64
theorem sW_lt (f : Nat → Bool) (i : Nat) : sW f i < 18446744073709551616 := wordN_lt _ 64
theorem sW_congr {f g : Nat → Bool} {i : Nat} (hi : i < 4) (h : ∀ c, c < 256 → f c = g c) : sW f i = sW g i := wordN_congr (fun k hk => h _ (by omega))
theorem sW_or (f g : Nat → Bool) (i : Nat) : sW f i ||| sW g i = sW (fun c => f c || g c) i := wordN_or _ _ _
theorem sW_and (f g : Nat → Bool) (i : Nat) : sW f i &&& sW g i = sW (fun c => f c && g c) i := wordN_and _ _ _
theorem sW_not (f : Nat → Bool) (i : Nat) : 18446744073709551615 - sW f i = sW (fun c => !f c) i := wordN_not (fun k => f (64 * i + k)) 64
/-- A set with a byte more. -/
def insF (f : Nat → Bool) (c : Nat) : Nat → Bool := fun x => f x || decide (x = c)
theorem sW_ins (f : Nat → Bool) (i k : Nat) (h : k < 64) : sW f i ||| 2 ^ k = sW (insF f (64 * i + k)) i := by
  rw [wordN_bit h, sW, wordN_or]
  refine wordN_congr (fun j hj => ?_)
  have e : (64 * i + j = 64 * i + k) = (j = k) := by apply propext; omega
  simp only [insF, e]
theorem sW_ins_ne (f : Nat → Bool) {i j k : Nat} (h : k < 64) (hij : i ≠ j) : sW (insF f (64 * i + k)) j = sW f j := by
  refine wordN_congr (fun l hl => ?_)
  have e : ¬ 64 * j + l = 64 * i + k := by omega
  simp [insF, e]
theorem sW_has (f : Nat → Bool) (i k : Nat) (h : k < 64) : sW f i / 2 ^ k % 2 = if f (64 * i + k) then 1 else 0 := by
  have e := testBit_wordN (fun k => f (64 * i + k)) 64 k
  rw [Nat.testBit_eq_decide_div_mod_eq] at e
  simp only [h, decide_true, Bool.true_and] at e
  change decide (sW f i / 2 ^ k % 2 = 1) = _ at e
  have h2 : sW f i / 2 ^ k % 2 < 2 := Nat.mod_lt _ (by decide)
  cases hf : f (64 * i + k)
  · rw [hf] at e
    have := of_decide_eq_false e
    simp only [Bool.false_eq_true, if_false]
    omega
  · rw [hf] at e
    have := of_decide_eq_true e
    simp only [if_true]
    omega

def setC (f : Nat → Bool) : Array Value := #[.int .u64 (sW f 0 : Nat), .int .u64 (sW f 1 : Nat), .int .u64 (sW f 2 : Nat), .int .u64 (sW f 3 : Nat)]
def setV (f : Nat → Bool) : Value := .agg (setC f)
theorem setV_congr {f g : Nat → Bool} (h : ∀ c, c < 256 → f c = g c) : setV f = setV g := by
  unfold setV setC
  rw [sW_congr (by decide : 0 < 4) h, sW_congr (by decide : 1 < 4) h, sW_congr (by decide : 2 < 4) h, sW_congr (by decide : 3 < 4) h]
/-- Four words are a set's. -/
def ofW (a b c d : Nat) : Nat → Bool := fun x => if x < 64 then a.testBit x else if x < 128 then b.testBit (x - 64) else if x < 192 then c.testBit (x - 128) else d.testBit (x - 192)
theorem sW_ofW {a b c d : Nat} (ha : a < 18446744073709551616) (hb : b < 18446744073709551616) (hc : c < 18446744073709551616) (hd : d < 18446744073709551616) :
    setC (ofW a b c d) = #[.int .u64 (a : Nat), .int .u64 (b : Nat), .int .u64 (c : Nat), .int .u64 (d : Nat)] := by
  have h0 : sW (ofW a b c d) 0 = a := (wordN_eq (n := 64) ha (fun k hk => by simp [ofW, hk])).symm
  have h1 : sW (ofW a b c d) 1 = b := (wordN_eq (n := 64) hb (fun k hk => by
    have e1 : ¬ 64 * 1 + k < 64 := by omega
    have e2 : 64 * 1 + k < 128 := by omega
    have e3 : 64 * 1 + k - 64 = k := by omega
    simp only [ofW, e1, e2, e3, if_true, if_false])).symm
  have h2 : sW (ofW a b c d) 2 = c := (wordN_eq (n := 64) hc (fun k hk => by
    have e1 : ¬ 64 * 2 + k < 64 := by omega
    have e2 : ¬ 64 * 2 + k < 128 := by omega
    have e4 : 64 * 2 + k < 192 := by omega
    have e3 : 64 * 2 + k - 128 = k := by omega
    simp only [ofW, e1, e2, e3, e4, if_true, if_false])).symm
  have h3 : sW (ofW a b c d) 3 = d := (wordN_eq (n := 64) hd (fun k hk => by
    have e1 : ¬ 64 * 3 + k < 64 := by omega
    have e2 : ¬ 64 * 3 + k < 128 := by omega
    have e4 : ¬ 64 * 3 + k < 192 := by omega
    have e3 : 64 * 3 + k - 192 = k := by omega
    simp only [ofW, e1, e2, e3, e4, if_false])).symm
  unfold setC
  rw [h0, h1, h2, h3]
end Go.Proofs.YtlhppbendpnkeaaGreatDoor
/- sets: Has, add. -/
namespace Go.Proofs.YtlhppbendpnkeaaGreatDoor
set_option linter.unusedSimpArgs false
set_option linter.unusedVariables false
open Go.RowKit

theorem byte_split {c : Nat} (h : c < 256) : ∃ i k, i < 4 ∧ k < 64 ∧ 64 * i + k = c := ⟨c / 64, c % 64, by omega, by omega, by omega⟩
theorem one64 (x : Nat) (h : x < 18446744073709551616) : bits .and .u64 (x : Int) 1 = ((x % 2 : Nat) : Int) := by
  rw [← nat_mask1]
  exact u64_and_nat x 1 h (by decide)
theorem shl64 (k : Nat) (h : k < 64) : IntKind.u64.wrap ((2 : Int) ^ k) = ((2 ^ k : Nat) : Int) := by
  have h1 : 2 ^ k < 18446744073709551616 := Nat.pow_lt_pow_right (by decide) h
  have e : (2 : Int) ^ k = ((2 ^ k : Nat) : Int) := by push_cast; rfl
  rw [e, IntKind.wrap_u64]
  generalize 2 ^ k = x at *
  exact Int.emod_eq_of_lt (by omega) (by omega)

set_option maxHeartbeats 1600000 in
theorem Has_any (f : Nat → Bool) (c : Nat) (hc : c < 256) (w : World) :
    Calls Tryz.prog 31 #[setV f, .int .u8 (c : Int)] w fun e w' => e = .returned (.bool (f c)) ∧ Below w.heap.size w w' := by
  obtain ⟨i, k, hi, hk, hcc⟩ := byte_split hc
  have hh := sW_has f i k hk
  rw [hcc] at hh
  have hr : (c : Int) % 64 = (k : Int) := by omega
  have hlt : sW f i / 2 ^ k < 18446744073709551616 := Nat.lt_of_le_of_lt (Nat.div_le_self _ _) (sW_lt f i)
  have ha : bits .and .u64 ((sW f i : Int) / 2 ^ k) 1 = if f c then 1 else 0 := by
    have e : ((sW f i : Nat) : Int) / 2 ^ k = ((sW f i / 2 ^ k : Nat) : Int) := by push_cast; rfl
    rw [e, one64 _ hlt, hh]
    cases f c <;> rfl
  have hfin : ((if f c then (1 : Int) else 0) == 1) = f c := by cases f c <;> rfl
  have hfin2 : (decide ((if f c then (1 : Int) else 0) = 1)) = f c := by cases f c <;> rfl
  have hk1 : (0 : Int) ≤ (k : Int) ∧ (k : Int) ≤ 64 := by omega
  obtain ⟨hk1, hk2⟩ := hk1
  have hk3 : (0 : Int) ≤ (c : Int) := by omega
  clear hh hlt
  unfold setV setC
  obtain rfl | rfl | rfl | rfl : i = 0 ∨ i = 1 ∨ i = 2 ∨ i = 3 := by omega
  · have hq : (c : Int) / 64 = 0 := by omega
    have hq2 : c / 64 = 0 := by omega
    clear hcc hc hi hk
    go_enter Tryz.func31, Tryz.ntmps31
    go_wp2_with fail
    all_goals
      go_ret
      first | exact ⟨rfl, bl_alloc _ _⟩ | exact ⟨by simp_all, bl_alloc _ _⟩
  · have hq : (c : Int) / 64 = 1 := by omega
    have hq2 : c / 64 = 1 := by omega
    clear hcc hc hi hk
    go_enter Tryz.func31, Tryz.ntmps31
    go_wp2_with fail
    all_goals
      go_ret
      first | exact ⟨rfl, bl_alloc _ _⟩ | exact ⟨by simp_all, bl_alloc _ _⟩
  · have hq : (c : Int) / 64 = 2 := by omega
    have hq2 : c / 64 = 2 := by omega
    clear hcc hc hi hk
    go_enter Tryz.func31, Tryz.ntmps31
    go_wp2_with fail
    all_goals
      go_ret
      first | exact ⟨rfl, bl_alloc _ _⟩ | exact ⟨by simp_all, bl_alloc _ _⟩
  · have hq : (c : Int) / 64 = 3 := by omega
    have hq2 : c / 64 = 3 := by omega
    clear hcc hc hi hk
    go_enter Tryz.func31, Tryz.ntmps31
    go_wp2_with fail
    all_goals
      go_ret
      first | exact ⟨rfl, bl_alloc _ _⟩ | exact ⟨by simp_all, bl_alloc _ _⟩

set_option maxHeartbeats 1600000 in
theorem add_any (f : Nat → Bool) (c : Nat) (hc : c < 256) (w : World) :
    Calls Tryz.prog 96 #[setV f, .int .u8 (c : Int)] w fun e w' => e = .returned (setV (insF f c)) ∧ Below w.heap.size w w' := by
  obtain ⟨i, k, hi, hk, hcc⟩ := byte_split hc
  have hr : (c : Int) % 64 = (k : Int) := by omega
  have h2 : 2 ^ k < 18446744073709551616 := Nat.pow_lt_pow_right (by decide) hk
  have ha : bits .or .u64 (sW f i : Int) (IntKind.u64.wrap ((2 : Int) ^ k)) = (sW (insF f c) i : Int) := by
    rw [shl64 k hk, u64_or_nat _ _ (sW_lt f i) h2, sW_ins f i k hk, hcc]
  have ha' : bits .or .u64 (sW f i : Int) ((2 : Int) ^ k) = (sW (insF f c) i : Int) := by
    rw [← ha, shl64 k hk]; push_cast; rfl
  have hne : ∀ j, i ≠ j → sW (insF f c) j = sW f j := fun j hj => by rw [← hcc]; exact sW_ins_ne f hk hj
  have hk1 : (0 : Int) ≤ (k : Int) ∧ (k : Int) ≤ 64 := by omega
  obtain ⟨hk1, hk2⟩ := hk1
  have hk3 : (0 : Int) ≤ (c : Int) := by omega
  clear h2
  have HR : setV (insF f c) = .agg #[.int .u64 (sW (insF f c) 0 : Nat), .int .u64 (sW (insF f c) 1 : Nat), .int .u64 (sW (insF f c) 2 : Nat), .int .u64 (sW (insF f c) 3 : Nat)] := rfl
  rw [HR]
  clear HR
  unfold setV setC
  obtain rfl | rfl | rfl | rfl : i = 0 ∨ i = 1 ∨ i = 2 ∨ i = 3 := by omega
  · have hq : (c : Int) / 64 = 0 := by omega
    have hq2 : c / 64 = 0 := by omega
    have e1 : sW (insF f c) 1 = sW f 1 := hne 1 (by decide)
    have e2 : sW (insF f c) 2 = sW f 2 := hne 2 (by decide)
    have e3 : sW (insF f c) 3 = sW f 3 := hne 3 (by decide)
    clear hcc hc hi hk hne
    go_enter Tryz.func96, Tryz.ntmps96
    go_wp2_with fail
    all_goals
      go_returns
      exact ⟨by rw [e1, e2, e3], by go_grown⟩
  · have hq : (c : Int) / 64 = 1 := by omega
    have hq2 : c / 64 = 1 := by omega
    have e0 : sW (insF f c) 0 = sW f 0 := hne 0 (by decide)
    have e2 : sW (insF f c) 2 = sW f 2 := hne 2 (by decide)
    have e3 : sW (insF f c) 3 = sW f 3 := hne 3 (by decide)
    clear hcc hc hi hk hne
    go_enter Tryz.func96, Tryz.ntmps96
    go_wp2_with fail
    all_goals
      go_returns
      exact ⟨by rw [e0, e2, e3], by go_grown⟩
  · have hq : (c : Int) / 64 = 2 := by omega
    have hq2 : c / 64 = 2 := by omega
    have e0 : sW (insF f c) 0 = sW f 0 := hne 0 (by decide)
    have e1 : sW (insF f c) 1 = sW f 1 := hne 1 (by decide)
    have e3 : sW (insF f c) 3 = sW f 3 := hne 3 (by decide)
    clear hcc hc hi hk hne
    go_enter Tryz.func96, Tryz.ntmps96
    go_wp2_with fail
    all_goals
      go_returns
      exact ⟨by rw [e0, e1, e3], by go_grown⟩
  · have hq : (c : Int) / 64 = 3 := by omega
    have hq2 : c / 64 = 3 := by omega
    have e0 : sW (insF f c) 0 = sW f 0 := hne 0 (by decide)
    have e1 : sW (insF f c) 1 = sW f 1 := hne 1 (by decide)
    have e2 : sW (insF f c) 2 = sW f 2 := hne 2 (by decide)
    clear hcc hc hi hk hne
    go_enter Tryz.func96, Tryz.ntmps96
    go_wp2_with fail
    all_goals
      go_returns
      exact ⟨by rw [e0, e1, e2], by go_grown⟩
end Go.Proofs.YtlhppbendpnkeaaGreatDoor
/- sets: Or, And, Not. -/
namespace Go.Proofs.YtlhppbendpnkeaaGreatDoor
set_option linter.unusedSimpArgs false
set_option linter.unusedVariables false
open Go.RowKit

theorem or64 (f g : Nat → Bool) (i : Nat) : bits .or .u64 (sW f i : Int) (sW g i : Int) = (sW (fun c => f c || g c) i : Int) := by
  rw [u64_or_nat _ _ (sW_lt f i) (sW_lt g i), sW_or]
theorem and64 (f g : Nat → Bool) (i : Nat) : bits .and .u64 (sW f i : Int) (sW g i : Int) = (sW (fun c => f c && g c) i : Int) := by
  rw [u64_and_nat _ _ (sW_lt f i) (sW_lt g i), sW_and]

set_option maxHeartbeats 3200000 in
theorem Or_any (f g : Nat → Bool) (w : World) :
    Calls Tryz.prog 93 #[setV f, setV g] w fun e w' => e = .returned (setV (fun c => f c || g c)) ∧ Below w.heap.size w w' := by
  have HR : setV (fun c => f c || g c) = .agg #[.int .u64 (sW (fun c => f c || g c) 0 : Nat), .int .u64 (sW (fun c => f c || g c) 1 : Nat), .int .u64 (sW (fun c => f c || g c) 2 : Nat), .int .u64 (sW (fun c => f c || g c) 3 : Nat)] := rfl
  rw [HR, ← or64, ← or64, ← or64, ← or64]
  clear HR
  unfold setV setC
  go_enter Tryz.func93, Tryz.ntmps93
  go_wp2_with fail
  refine wp_loop_rounds 5 ?_
  iterate 4
    rw [rounds_succ]
    go_wp2_with fail
    go_region
    go_wp2_with fail
  rw [rounds_succ]
  go_wp2_with fail
  go_returns
  exact ⟨rfl, by go_grown⟩

set_option maxHeartbeats 3200000 in
theorem And_any (f g : Nat → Bool) (w : World) :
    Calls Tryz.prog 113 #[setV f, setV g] w fun e w' => e = .returned (setV (fun c => f c && g c)) ∧ Below w.heap.size w w' := by
  have HR : setV (fun c => f c && g c) = .agg #[.int .u64 (sW (fun c => f c && g c) 0 : Nat), .int .u64 (sW (fun c => f c && g c) 1 : Nat), .int .u64 (sW (fun c => f c && g c) 2 : Nat), .int .u64 (sW (fun c => f c && g c) 3 : Nat)] := rfl
  rw [HR, ← and64, ← and64, ← and64, ← and64]
  clear HR
  unfold setV setC
  go_enter Tryz.func113, Tryz.ntmps113
  go_wp2_with fail
  refine wp_loop_rounds 5 ?_
  iterate 4
    rw [rounds_succ]
    go_wp2_with fail
    go_region
    go_wp2_with fail
  rw [rounds_succ]
  go_wp2_with fail
  go_returns
  exact ⟨rfl, by go_grown⟩

theorem xorN (g : Nat → Bool) (n : Nat) : (2 ^ n - 1) ^^^ wordN g n = wordN (fun k => !g k) n := by
  have h1 : 2 ^ n - 1 < 2 ^ n := by have := Nat.two_pow_pos n; omega
  refine wordN_eq (Nat.xor_lt_two_pow h1 (wordN_lt _ _)) (fun k hk => ?_)
  rw [Nat.testBit_xor, testBit_wordN, Nat.testBit_two_pow_sub_one]
  simp [hk]
theorem xor64 (f : Nat → Bool) (i : Nat) : bits .xor .u64 IntKind.u64.max (sW f i : Int) = (sW (fun c => !f c) i : Int) := by
  have e : IntKind.u64.max = ((18446744073709551615 : Nat) : Int) := by decide
  rw [e, u64_xor_nat _ _ (by decide) (sW_lt f i)]
  have h := xorN (fun k => f (64 * i + k)) 64
  exact congrArg (fun x : Nat => (x : Int)) h
set_option maxHeartbeats 3200000 in
theorem Not_any (f : Nat → Bool) (w : World) :
    Calls Tryz.prog 11 #[setV f] w fun e w' => e = .returned (setV (fun c => !f c)) ∧ Below w.heap.size w w' := by
  have HR : setV (fun c => !f c) = .agg #[.int .u64 (sW (fun c => !f c) 0 : Nat), .int .u64 (sW (fun c => !f c) 1 : Nat), .int .u64 (sW (fun c => !f c) 2 : Nat), .int .u64 (sW (fun c => !f c) 3 : Nat)] := rfl
  rw [HR]
  clear HR
  unfold setV setC
  go_enter Tryz.func11, Tryz.ntmps11
  go_wp2_with fail
  refine wp_loop_rounds 5 ?_
  rw [rounds_succ]
  go_wp2_with fail
  iterate 4
    rw [rounds_succ]
    go_wp2_with fail
  go_returns
  exact ⟨by rw [xor64, xor64, xor64, xor64], by go_grown⟩
end Go.Proofs.YtlhppbendpnkeaaGreatDoor
