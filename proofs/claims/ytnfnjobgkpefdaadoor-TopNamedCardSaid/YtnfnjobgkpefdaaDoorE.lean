/- goes: an octal beginning of a byte that is told so. -/
import Derived.Test.YtnfnjobgkpefdaaDoorD
namespace Go.Proofs.YtnfnjobgkpefdaaDoor
set_option linter.unusedSimpArgs false
set_option linter.unusedVariables false
open Go.RowKit

theorem Sh.to {w W : World} (h : Sh w) (hb : Below w.heap.size w W) : Sh W := fun i hi => bl_cell hb (h i hi)

/-- c lies between lo and hi once k is 2. -/
def Jo (c k lo hi : Nat) : Prop := (k = 0 ∧ lo * 64 ≤ c ∧ c < (hi + 1) * 64 ∧ hi < 4) ∨ (k = 1 ∧ lo * 8 ≤ c ∧ c < (hi + 1) * 8 ∧ hi < 32) ∨ (k = 2 ∧ lo ≤ c ∧ c ≤ hi ∧ hi < 256)
theorem Jo.step {c k lo hi : Nat} (h : Jo c k lo hi) (hk : k < 2) : Jo c (k + 1) (8 * lo) (8 * hi + 7) := by
  unfold Jo at *; omega

set_option maxRecDepth 8000 in
set_option maxHeartbeats 3200000 in
theorem goes_any (c : UInt8) (n k : Nat) (w : World) (hJ : Jo c.toNat k n n) (h4 : (toldB c).length = 4) (hs : Sh w) :
    Calls Tryd.prog 29 #[.int .i64 (n : Int), .int .i64 (k : Int)] w fun e w' => e = .returned (.bool true) ∧ Below w.heap.size w w' := by
  have HT := Lib.hid (fun W (hb : Below w.heap.size w W) (b : UInt8) => told_any b W (hs.to hb))
  have HJ := Lib.hid hJ
  have hc : c.toNat < 256 := c.toNat_lt
  clear hs hJ
  go_enter Tryd.func29, Tryd.ntmps29
  go_wp2_with fail
  go_loopw [1, 5, 6] (fun s1 s5 s6 wr => ∃ k lo hi : Nat, s1 = .int .i64 k ∧ s5 = .int .i64 lo ∧ s6 = .int .i64 hi ∧ Jo c.toNat k lo hi ∧ w = wr) (fun s1 _ _ _ => 2 - (intOf s1).toNat)
  case atStart => exact ⟨k, n, n, rfl, rfl, rfl, HJ.out, rfl⟩
  case round =>
    obtain ⟨k, lo, hi, rfl, rfl, rfl, hj, rfl⟩ := hrel
    have hk2 : k ≤ 2 := by unfold Jo at hj; omega
    have hhi : hi < 256 := by unfold Jo at hj; omega
    have hlo : lo ≤ 256 := by unfold Jo at hj; omega
    have HJ2 := Lib.hid hj
    by_cases hlt : k < 2
    · have hk1 : (k : Int) < 2 := by omega
      have hd : decide ((k : Int) < 2) = true := decide_eq_true hk1
      have w1 : IntKind.i64.wrap (8 * (lo : Int)) = 8 * (lo : Int) := wrap_in _ (by omega) (by omega)
      have w2 : IntKind.i64.wrap (8 * (hi : Int)) = 8 * (hi : Int) := wrap_in _ (by omega) (by omega)
      have w3 : IntKind.i64.wrap (8 * (hi : Int) + 7) = 8 * (hi : Int) + 7 := wrap_in _ (by omega) (by omega)
      have w4 : IntKind.i64.wrap ((k : Int) + 1) = (k : Int) + 1 := wrap_in _ (by omega) (by omega)
      clear hj
      go_wp2_with fail
      go_roundw
      case rel => exact ⟨k + 1, 8 * lo, 8 * hi + 7, by go_num, by go_num, by go_num, HJ2.out.step hlt, by first | trivial | rfl⟩
      case measure => simp [intOf]; omega
    · have hk1 : ¬ (k : Int) < 2 := by omega
      have hd : decide ((k : Int) < 2) = false := decide_eq_false hk1
      have hl1 : lo ≤ c.toNat ∧ c.toNat ≤ hi := by unfold Jo at hj; omega
      clear hj HJ HJ2
      go_wp2_with fail
      go_loopw [7] (fun s7 wr => ∃ j : Nat, j ≤ c.toNat ∧ s7 = .int .i64 j ∧ Below w.heap.size w wr) (fun s7 _ => 256 - (intOf s7).toNat)
      case atStart => exact ⟨lo, hl1.1, rfl, Below.refl _ _⟩
      case round =>
        obtain ⟨j, hj, rfl, hb⟩ := hrel
        have HB := Lib.hid hb
        have j1 : (j : Int) ≤ (hi : Int) := by omega
        have j2 : (j : Int) < 256 := by omega
        have d1 : decide ((j : Int) ≤ (hi : Int)) = true := decide_eq_true j1
        have d2 : decide ((j : Int) < 256) = true := decide_eq_true j2
        have hjb : (UInt8.ofNat j).toNat = j := by simp; omega
        have HC := Lib.hid (HT.out _ hb (UInt8.ofNat j))
        rw [hjb] at HC
        have hj4 : j = c.toNat → (toldB (UInt8.ofNat j)).length = 4 := fun e => by rw [e, UInt8.ofNat_toNat]; exact h4
        have HJ4 := Lib.hid hj4
        obtain ⟨tb, htb⟩ : ∃ tb, (⟨(toldB (UInt8.ofNat j)).toArray⟩ : ByteArray) = tb := ⟨_, rfl⟩
        have hsz : tb.size = (toldB (UInt8.ofNat j)).length := by rw [← htb]; exact List.size_toArray
        rw [← hsz] at HJ4
        rw [htb] at HC
        clear hb hjb hj4 hsz htb
        go_wp2_with fail
        refine HC.out.mono ?_
        rintro e w2 ⟨rfl, hb2⟩
        have HB2 := Lib.hid (bl_to HB.out hb2)
        clear hb2
        by_cases hsz : tb.size = 4
        · go_wp2_with fail
          go_ret
          exact ⟨rfl, HB2.out⟩
        · have hne : ¬ (tb.size : Int) = 4 := by omega
          have hbe : ((tb.size : Int) == 4) = false := by simpa using hne
          have hjl : j < c.toNat := by
            rcases Nat.lt_or_ge j c.toNat with h | h
            · exact h
            · exact absurd (HJ4.out (by omega)) hsz
          have w5 : IntKind.i64.wrap ((j : Int) + 1) = (j : Int) + 1 := wrap_in _ (by omega) (by omega)
          go_wp2_with fail
          go_roundw
          case rel => exact ⟨j + 1, by omega, by go_num, HB2.out⟩
          case measure => simp [intOf]; omega
end Go.Proofs.YtnfnjobgkpefdaaDoor
