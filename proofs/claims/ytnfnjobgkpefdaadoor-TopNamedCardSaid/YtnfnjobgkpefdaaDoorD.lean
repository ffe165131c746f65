/- told: how a byte is told. -/
import Derived.Test.YtnfnjobgkpefdaaDoorC
namespace Go.Proofs.YtnfnjobgkpefdaaDoor
set_option linter.unusedSimpArgs false
set_option linter.unusedVariables false
open Go.RowKit

theorem shortB_lt : ∀ i, shortB i ≠ 0 → i < 14 := by
  intro i h
  rcases Nat.lt_or_ge i 14 with h1 | h1
  · exact h1
  · exfalso; apply h
    unfold shortB
    split <;> first | rfl | omega
theorem shortB_ge {i : Nat} (h : 14 ≤ i) : shortB i = 0 := by
  rcases Decidable.em (shortB i = 0) with e | e
  · exact e
  · have := shortB_lt i e; omega

set_option maxRecDepth 8000 in
set_option maxHeartbeats 3200000 in
theorem told_any (c : UInt8) (w : World) (hs : Sh w) :
    Calls Tryd.prog 20 #[.int .u8 (c.toNat : Int)] w fun e w' => e = .returned (.string ⟨(toldB c).toArray⟩) ∧ Below w.heap.size w w' := by
  have hc : c.toNat < 256 := c.toNat_lt
  have o0 := oct0 c
  have o1 := oct1 c
  have o2 := oct2 c
  have HV4 := Lib.hid (fun W => conv_lit W [92, (48 : UInt8) + (c >>> 6), (48 : UInt8) + ((c >>> 3) &&& 7), (48 : UInt8) + (c &&& 7)] #[.int .u8 92, .int .u8 (48 + (c.toNat : Int) / 64), .int .u8 (48 + (c.toNat : Int) / 8 % 8), .int .u8 (48 + (c.toNat : Int) % 8)] 4 rfl (by simp only [List.map, o0, o1, o2]; rfl))
  have HV1 := Lib.hid (fun W => conv_lit W [c] #[.int .u8 (c.toNat : Int)] 1 rfl (by simp))
  have HV2 := Lib.hid (fun W => conv_lit W [92, shortB c.toNat] #[.int .u8 92, .int .u8 ((shortB c.toNat).toNat : Int)] 2 rfl (by simp))
  clear o0 o1 o2
  by_cases h92 : c = 92
  · subst h92
    clear HV1 HV2 HV4
    go_enter Tryd.func20, Tryd.ntmps20
    go_wp2_with fail
    go_ret
    exact ⟨rfl, Below.refl _ _⟩
  · have h92' : ¬ c.toNat = 92 := fun e => h92 (by rw [← UInt8.toNat_inj]; exact e)
    have h92i : ((c.toNat : Int) == 92) = false := by simpa using (by omega : ¬ (c.toNat : Int) = 92)
    have l32 : c < 32 ↔ c.toNat < 32 := by rw [UInt8.lt_iff_toNat_lt]; rfl
    have l127 : 127 ≤ c ↔ 127 ≤ c.toNat := by rw [UInt8.le_iff_toNat_le]; rfl
    by_cases hsh : shortB c.toNat = 0
    · have HT4 : c.toNat < 32 ∨ 127 ≤ c.toNat → toldB c = ([92, (48 : UInt8) + (c >>> 6), (48 : UInt8) + ((c >>> 3) &&& 7), (48 : UInt8) + (c &&& 7)] : List UInt8) := fun h => by
        unfold toldB; rw [if_neg h92, if_neg (by simp [hsh]), if_pos (by rw [l32, l127]; exact h)]
      have HT1 : ¬ (c.toNat < 32 ∨ 127 ≤ c.toNat) → toldB c = [c] := fun h => by
        unfold toldB; rw [if_neg h92, if_neg (by simp [hsh]), if_neg (by rw [l32, l127]; exact h)]
      replace HT4 := Lib.hid HT4
      replace HT1 := Lib.hid HT1
      have hcell := hs c.toNat
      rw [hsh] at hcell
      by_cases h14 : c.toNat < 14
      · replace hcell := hcell h14
        have hcell0 : w.cell? ⟨0, c.toNat, none⟩ = some (.int .u8 0) := hcell
        have h14i : (c.toNat : Int) < 14 := by omega
        have d14 : decide ((c.toNat : Int) < 14) = true := decide_eq_true h14i
        have h32i : (c.toNat : Int) < 32 := by omega
        have d32 : decide ((c.toNat : Int) < 32) = true := decide_eq_true h32i
        have v4 := HV4.out w
        clear hcell HV1 HV2 HV4 l32 l127 hsh
        go_enter Tryd.func20, Tryd.ntmps20
        go_wp2_with fail
        go_ret
        rw [HT4.out (by omega)]
        exact ⟨rfl, bl_alloc _ _⟩
      · clear hcell
        have h14i : ¬ (c.toNat : Int) < 14 := by omega
        have d14 : decide ((c.toNat : Int) < 14) = false := decide_eq_false h14i
        have v4 := HV4.out w
        have v1 := HV1.out w
        by_cases h4 : c.toNat < 32 ∨ 127 ≤ c.toNat
        · clear HV1 HV2 HV4 l32 l127 hsh v1
          by_cases h5 : c.toNat < 32
          · have d5 : decide ((c.toNat : Int) < 32) = true := decide_eq_true (by omega)
            go_enter Tryd.func20, Tryd.ntmps20
            go_wp2_with fail
            go_ret
            rw [HT4.out h4]
            exact ⟨rfl, bl_alloc _ _⟩
          · have d5 : decide ((c.toNat : Int) < 32) = false := decide_eq_false (by omega)
            have d6 : decide (127 ≤ (c.toNat : Int)) = true := decide_eq_true (by omega)
            go_enter Tryd.func20, Tryd.ntmps20
            go_wp2_with fail
            go_ret
            rw [HT4.out h4]
            exact ⟨rfl, bl_alloc _ _⟩
        · have e32 : ¬ (c.toNat : Int) < 32 := by omega
          have e127 : ¬ 127 ≤ (c.toNat : Int) := by omega
          have d32 : decide ((c.toNat : Int) < 32) = false := decide_eq_false e32
          have d127 : decide (127 ≤ (c.toNat : Int)) = false := decide_eq_false e127
          clear HV1 HV2 HV4 l32 l127 hsh v4
          go_enter Tryd.func20, Tryd.ntmps20
          go_wp2_with fail
          go_ret
          rw [HT1.out h4]
          exact ⟨rfl, bl_alloc _ _⟩
    · have h14 := shortB_lt _ hsh
      have hcell := hs c.toNat h14
      have h14i : (c.toNat : Int) < 14 := by omega
      have d14 : decide ((c.toNat : Int) < 14) = true := decide_eq_true h14i
      have HT2 := Lib.hid (show toldB c = [92, shortB c.toNat] by unfold toldB; rw [if_neg h92, if_pos hsh])
      have v2 := HV2.out w
      have hne : ¬ ((shortB c.toNat).toNat : Int) = 0 := fun e => hsh (by rw [← UInt8.toNat_inj]; simp; omega)
      have hne' : (((shortB c.toNat).toNat : Int) != 0) = true := by simpa using hne
      clear HV1 HV2 HV4 l32 l127 hsh
      generalize ((shortB c.toNat).toNat : Int) = z at *
      go_enter Tryd.func20, Tryd.ntmps20
      go_wp2_with fail
      go_ret
      rw [HT2.out]
      exact ⟨rfl, bl_alloc _ _⟩
end Go.Proofs.YtnfnjobgkpefdaaDoor
