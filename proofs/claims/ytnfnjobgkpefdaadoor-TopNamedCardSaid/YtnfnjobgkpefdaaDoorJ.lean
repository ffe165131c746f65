/- one: a told byte at a place: by a letter. -/
import Derived.Test.YtnfnjobgkpefdaaDoorI
import Derived.Deep.MidRow
namespace Go.Proofs.YtnfnjobgkpefdaaDoor
set_option linter.unusedSimpArgs false
set_option linter.unusedVariables false
open Go.RowKit

/-- The table's cells. -/
def shortC : List Value := [.int .u8 0, .int .u8 0, .int .u8 0, .int .u8 0, .int .u8 0, .int .u8 0, .int .u8 0, .int .u8 97, .int .u8 98, .int .u8 116, .int .u8 110, .int .u8 118, .int .u8 102, .int .u8 114]
theorem Sh.range {w : World} (h : Sh w) : w.rangeAt 0 0 shortC := by
  intro j v hv
  rw [Nat.zero_add]
  have hj : j < 14 := by
    rcases Nat.lt_or_ge j 14 with h1 | h1
    · exact h1
    · rw [List.getElem?_eq_none (by simp [shortC]; omega)] at hv; cases hv
  rw [h j hj, ← hv]
  rcases j with _|_|_|_|_|_|_|_|_|_|_|_|_|_|j <;> first | rfl | omega

theorem shortC_at (j : Nat) (hj : j < 14) : shortC[j]? = some (.int .u8 ((shortB j).toNat : Int)) := by
  rcases j with _|_|_|_|_|_|_|_|_|_|_|_|_|_|j <;> first | rfl | omega

theorem run_short (j : Nat) (hj : j < 14) (w : World) : (Instr.index 61 (.agg shortC.toArray) (.int .i64 (j : Int))).run Tryd.prog w = .ok (.int .u8 ((shortB j).toNat : Int)) w := by
  have h := shortC_at j hj
  have h1 : (0 : Int) ≤ j ∧ (j : Int) < 14 := by omega
  have h2 : ¬ 14 ≤ j := by omega
  simp [Instr.index, run_underlying Tryd.underlying61, asIntOf, go_sem, h1, h, h2]
theorem wrap8_in (n : Int) (h1 : 0 ≤ n) (h2 : n < 256) : IntKind.u8.wrap n = n := IntWalk.u8_in n ⟨h1, by omega⟩
theorem shortB_inj : ∀ a b : Nat, shortB a = shortB b → shortB a ≠ 0 → a = b := by
  intro a b h h0
  have ha := shortB_lt a h0
  have hb := shortB_lt b (h ▸ h0)
  have key : ∀ a : Fin 14, ∀ b : Fin 14, shortB a.val = shortB b.val → shortB a.val ≠ 0 → a.val = b.val := by decide
  exact key ⟨a, ha⟩ ⟨b, hb⟩ h h0

set_option maxRecDepth 8000 in
set_option maxHeartbeats 3200000 in
theorem one_short (s : ByteArray) (i x : Nat) (w : World) (hi : i + 1 < s.size) (h0 : s[i]'(by omega) = 92) (h1 : s[i + 1]'hi = shortB x) (hx : shortB x ≠ 0) (hsz : s.size ≤ 4611686018427387904) (hs : Sh w) :
    Calls Tryd.prog 17 #[.string s, .int .i64 (i : Int), .bool true] w fun e w' => e = .returned (.tuple #[.int .u8 (x : Int), .int .i64 ((i : Int) + 2), .int .i64 (-1)]) ∧ Below w.heap.size w w' := by
  have g1 : (i : Int) < (s.size : Int) := by omega
  have g2 : (i : Int) + 1 < (s.size : Int) := by omega
  have g3 : (0 : Int) ≤ (i : Int) + 1 := by omega
  have g4 : ((i : Int) + 1 == (s.size : Int)) = false := by simpa using (by omega : ¬ (i : Int) + 1 = (s.size : Int))
  have g5 : ¬ (i : Int) + 1 = (s.size : Int) := by omega
  have w1 : IntKind.i64.wrap ((i : Int) + 1) = (i : Int) + 1 := wrap_in _ (by omega) (by omega)
  have w2 : IntKind.i64.wrap ((i : Int) + 1 + 1) = (i : Int) + 2 := by rw [show (i : Int) + 1 + 1 = (i : Int) + 2 by omega]; exact wrap_in _ (by omega) (by omega)
  obtain ⟨c, hc⟩ : ∃ c, shortB x = c := ⟨_, rfl⟩
  rw [hc] at h1
  have hx14 := shortB_lt x hx
  have hcc : c.toNat ≠ 92 ∧ c.toNat ≠ 34 ∧ c.toNat ≠ 0 := by
    subst hc
    revert hx
    rcases x with _|_|_|_|_|_|_|_|_|_|_|_|_|_|x <;> first | (intro _; decide) | (intro h; exact absurd rfl h)
  have n92 : ¬ (c.toNat : Int) = 92 := by omega
  have e92 : ((c.toNat : Int) == 92) = false := by simpa using n92
  have n34 : ¬ (c.toNat : Int) = 34 := by omega
  have e34 : ((c.toNat : Int) == 34) = false := by simpa using n34
  have HS := Lib.hid hs
  have HSC := Lib.hid hs.range
  clear hs
  go_enter Tryd.func17, Tryd.ntmps17
  go_wp2_with (refine wpList_load_mid (by rfl) 61 (.global 0) (by rfl) 0 0 (by rfl) shortC _ HSC.out Tryd.underlying61 (by rfl) (by kernel_rfl) ?_)
  go_loopw [62] (fun s62 wr => ∃ k : Nat, k ≤ x ∧ s62 = .int .i64 k ∧ w = wr) (fun s62 _ => 14 - (intOf s62).toNat)
  case atStart => exact ⟨0, Nat.zero_le _, rfl, rfl⟩
  case round =>
    obtain ⟨k, hk, rfl, rfl⟩ := hrel
    have k1 : (k : Int) < 14 := by omega
    have dk : decide ((k : Int) < 14) = true := decide_eq_true k1
    have hel := run_short k (by omega) w
    have w5 : IntKind.i64.wrap ((k : Int) + 1) = (k : Int) + 1 := wrap_in _ (by omega) (by omega)
    have hz : 0 < c.toNat := by omega
    by_cases hkx : k = x
    · subst hkx
      rw [hc] at hel
      have nz : ¬ (c.toNat : Int) = 0 := by omega
      have w6 : IntKind.u8.wrap (k : Int) = (k : Int) := wrap8_in _ (by omega) (by omega)
      clear HS HSC hc h1 hx
      go_wp2_with fail
      go_ret3
      exact ⟨rfl, Below.refl _ _⟩
    · have hne : shortB k ≠ 0 → shortB k ≠ c := fun h0 e => hkx (shortB_inj k x (by rw [e, hc]) h0)
      obtain ⟨d, hd⟩ : ∃ d, shortB k = d := ⟨_, rfl⟩
      rw [hd] at hel hne
      by_cases hd0 : d = 0
      · subst hd0
        clear HS HSC hc h1 hx hd hne
        go_wp2_with fail
        go_roundw
        case rel => exact ⟨k + 1, by omega, by go_num, by first | rfl | trivial⟩
        case measure => simp [intOf]; omega
      · have n1 : ¬ (d.toNat : Int) = 0 := fun e => hd0 (by rw [← UInt8.toNat_inj]; simp; omega)
        have n2 : ¬ (d.toNat : Int) = (c.toNat : Int) := fun e => hne hd0 (by rw [← UInt8.toNat_inj]; omega)
        have e2 : ((d.toNat : Int) == (c.toNat : Int)) = false := by simpa using n2
        clear HS HSC hc h1 hx hd hne
        go_wp2_with fail
        go_roundw
        case rel => exact ⟨k + 1, by omega, by go_num, by first | rfl | trivial⟩
        case measure => simp [intOf]; omega
end Go.Proofs.YtnfnjobgkpefdaaDoor
