/- one: a told byte at a place: by three octal digits. -/
import Derived.Test.YtnfnjobgkpefdaaDoorJ
namespace Go.Proofs.YtnfnjobgkpefdaaDoor
set_option linter.unusedSimpArgs false
set_option linter.unusedVariables false
open Go.RowKit

/-- The number of the first k octal digits of a byte. -/
def octN (c k : Nat) : Nat := if k = 0 then 0 else if k = 1 then c / 64 else if k = 2 then c / 8 else c
/-- The digit at place k. -/
def octD (c k : Nat) : Nat := if k = 0 then c / 64 else if k = 1 then c / 8 % 8 else c % 8
theorem octN_succ (c k : Nat) (h : k < 3) : 8 * octN c k + octD c k = octN c (k + 1) := by
  unfold octN octD
  rcases k with _|_|_|k <;> simp <;> omega
theorem octN_le (c k : Nat) (h : c < 256) : octN c k < 256 := by
  unfold octN; repeat' split
  all_goals omega
theorem octD_le (c k : Nat) (h : c < 256) : octD c k < 8 := by
  unfold octD; repeat' split
  all_goals omega
theorem octN_jo (c k : Nat) (h : k < 3) (hc : c < 256) : Jo c k (octN c (k + 1)) (octN c (k + 1)) := by
  unfold Jo octN
  rcases k with _|_|_|k <;> simp <;> omega

set_option maxRecDepth 8000 in
set_option maxHeartbeats 6400000 in
theorem one_oct (s : ByteArray) (i : Nat) (c : UInt8) (w : World) (hi : i + 3 < s.size) (h0 : s[i]'(by omega) = 92) (hd : ∀ k (hk : k < 3), (s[i + 1 + k]'(by omega)).toNat = 48 + octD c.toNat k) (h4 : (toldB c).length = 4) (hsz : s.size ≤ 4611686018427387904) (hs : Sh w) :
    Calls Tryd.prog 17 #[.string s, .int .i64 (i : Int), .bool true] w fun e w' => e = .returned (.tuple #[.int .u8 (c.toNat : Int), .int .i64 ((i : Int) + 4), .int .i64 (-1)]) ∧ Below w.heap.size w w' := by
  have g1 : (i : Int) < (s.size : Int) := by omega
  have g2 : (i : Int) + 1 < (s.size : Int) := by omega
  have g3 : (0 : Int) ≤ (i : Int) + 1 := by omega
  have g4 : ((i : Int) + 1 == (s.size : Int)) = false := by simpa using (by omega : ¬ (i : Int) + 1 = (s.size : Int))
  have g5 : ¬ (i : Int) + 1 = (s.size : Int) := by omega
  have w1 : IntKind.i64.wrap ((i : Int) + 1) = (i : Int) + 1 := wrap_in _ (by omega) (by omega)
  have w2 : IntKind.i64.wrap ((i : Int) + 1 + 3) = (i : Int) + 4 := by rw [show (i : Int) + 1 + 3 = (i : Int) + 4 by omega]; exact wrap_in _ (by omega) (by omega)
  have hc := c.toNat_lt
  have hd0 := hd 0 (by omega)
  simp only [Nat.add_zero] at hd0
  have hl0 := octD_le c.toNat 0 hc
  obtain ⟨x, hx⟩ : ∃ x, s[i + 1]'(by omega) = x := ⟨_, rfl⟩
  rw [hx] at hd0
  have hl1 : octD c.toNat 0 < 4 := by unfold octD; simp; omega
  have n92 : ¬ (x.toNat : Int) = 92 := by omega
  have e92 : ((x.toNat : Int) == 92) = false := by simpa using n92
  have n34 : ¬ (x.toNat : Int) = 34 := by omega
  have e34 : ((x.toNat : Int) == 34) = false := by simpa using n34
  have hxs : ∀ k, shortB k ≠ x := by
    intro k e
    rcases Nat.lt_or_ge k 14 with h | h
    · subst e
      revert hd0
      rcases k with _|_|_|_|_|_|_|_|_|_|_|_|_|_|k <;> first | (intro h; exfalso; revert h; simp [shortB]; omega) | omega
    · rw [shortB_ge h] at e; subst e; simp at hd0; omega
  have HS := Lib.hid hs
  have HSC := Lib.hid hs.range
  have HD := Lib.hid hd
  have HX := Lib.hid hxs
  clear hs hd hd0 hl0 hl1 hxs
  go_enter Tryd.func17, Tryd.ntmps17
  go_wp2_with (refine wpList_load_mid (by rfl) 61 (.global 0) (by rfl) 0 0 (by rfl) shortC _ HSC.out Tryd.underlying61 (by rfl) (by kernel_rfl) ?_)
  go_loopw [62] (fun s62 wr => ∃ k : Nat, k ≤ 14 ∧ s62 = .int .i64 k ∧ w = wr) (fun s62 _ => 14 - (intOf s62).toNat)
  case atStart => exact ⟨0, Nat.zero_le _, rfl, rfl⟩
  case round =>
    obtain ⟨k, hk, rfl, rfl⟩ := hrel
    have w5 : IntKind.i64.wrap ((k : Int) + 1) = (k : Int) + 1 := wrap_in _ (by omega) (by omega)
    by_cases hlt : k < 14
    · have k1 : (k : Int) < 14 := by omega
      have dk : decide ((k : Int) < 14) = true := decide_eq_true k1
      have hel := run_short k (by omega) w
      obtain ⟨d, hd⟩ : ∃ d, shortB k = d := ⟨_, rfl⟩
      have hne : d ≠ x := hd ▸ HX.out k
      rw [hd] at hel
      have n2 : ¬ (d.toNat : Int) = (x.toNat : Int) := fun e => hne (by rw [← UInt8.toNat_inj]; omega)
      have e2 : ((d.toNat : Int) == (x.toNat : Int)) = false := by simpa using n2
      clear hne hd
      by_cases hd0 : d = 0
      · subst hd0
        go_wp2_with fail
        go_roundw
        case rel => exact ⟨k + 1, by omega, by go_num, by first | rfl | trivial⟩
        case measure => simp [intOf]; omega
      · have n1 : ¬ (d.toNat : Int) = 0 := fun e => hd0 (by rw [← UInt8.toNat_inj]; simp; omega)
        go_wp2_with fail
        go_roundw
        case rel => exact ⟨k + 1, by omega, by go_num, by first | rfl | trivial⟩
        case measure => simp [intOf]; omega
    · have k1 : ¬ (k : Int) < 14 := by omega
      have dk : decide ((k : Int) < 14) = false := decide_eq_false k1
      go_wp2_with fail
      go_loopw [78, 12] (fun s78 s12 wr => ∃ j : Nat, j ≤ 3 ∧ s78 = .int .i64 j ∧ s12 = .int .i64 (octN c.toNat j : Nat) ∧ Below w.heap.size w wr) (fun s78 _ _ => 3 - (intOf s78).toNat)
      case atStart => exact ⟨0, Nat.zero_le _, rfl, rfl, Below.refl _ _⟩
      case round =>
        obtain ⟨j, hj, rfl, rfl, hb⟩ := hrel
        have HB := Lib.hid hb
        clear hb
        have hn := octN_le c.toNat j hc
        obtain ⟨n, hN⟩ : ∃ n, octN c.toNat j = n := ⟨_, rfl⟩
        rw [hN] at hn
        by_cases hj3 : j < 3
        · have j1 : (j : Int) < 3 := by omega
          have dj : decide ((j : Int) < 3) = true := decide_eq_true j1
          have hdj := HD.out j hj3
          have hdl := octD_le c.toNat j hc
          have hsu := octN_succ c.toNat j hj3
          have hsl := octN_le c.toNat (j + 1) hc
          obtain ⟨m, hM⟩ : ∃ m, octN c.toNat (j + 1) = m := ⟨_, rfl⟩
          have HG := Lib.hid (fun W (hb : Below w.heap.size w W) => goes_any c m j W (hM ▸ octN_jo c.toNat j hj3 hc) h4 (HS.out.to hb))
          obtain ⟨y, hy⟩ : ∃ y, s[i + 1 + j]'(by omega) = y := ⟨_, rfl⟩
          rw [hy] at hdj
          rw [hN, hM] at hsu
          rw [hM] at hsl
          have w3 : IntKind.i64.wrap ((i : Int) + 1 + (j : Int)) = (i : Int) + 1 + (j : Int) := wrap_in _ (by omega) (by omega)
          have n3 : ¬ (i : Int) + 1 + (j : Int) = (s.size : Int) := by omega
          have e3 : ((i : Int) + 1 + (j : Int) == (s.size : Int)) = false := by simpa using n3
          have b3 : 0 ≤ (i : Int) + 1 + (j : Int) ∧ (i : Int) + 1 + (j : Int) < (s.size : Int) := by omega
          have b4 : 0 ≤ (i : Int) + 1 + (j : Int) := by omega
          have b5 : (i : Int) + 1 + (j : Int) < (s.size : Int) := by omega
          have t3 : ((i : Int) + 1 + (j : Int)).toNat = i + 1 + j := by omega
          obtain ⟨d, hD⟩ : ∃ d, octD c.toNat j = d := ⟨_, rfl⟩
          rw [hD] at hdj hdl hsu
          have w4 : IntKind.i64.wrap ((y.toNat : Int) - 48) = (d : Int) := by rw [show (y.toNat : Int) - 48 = (d : Int) by omega]; exact wrap_in _ (by omega) (by omega)
          have d0 : decide ((d : Int) < 0) = false := decide_eq_false (by omega)
          have d7 : decide (7 < (d : Int)) = false := decide_eq_false (by omega)
          have w6 : IntKind.i64.wrap (8 * (n : Int)) = 8 * (n : Int) := wrap_in _ (by omega) (by omega)
          have w7 : IntKind.i64.wrap (8 * (n : Int) + (d : Int)) = (m : Int) := by rw [show 8 * (n : Int) + (d : Int) = (m : Int) by omega]; exact wrap_in _ (by omega) (by omega)
          have wy : IntKind.i64.wrap (y.toNat : Int) = (y.toNat : Int) := wrap_in _ (by omega) (by have := y.toNat_lt; omega)
          have w5' : IntKind.i64.wrap ((j : Int) + 1) = (j : Int) + 1 := wrap_in _ (by omega) (by omega)
          rw [hN]
          clear hdj hsu HX hN hD w5 k1 dk
          go_wp2_with fail
          refine (HG.out _ HB.out).mono ?_
          rintro e w2 ⟨rfl, hb2⟩
          have HB2 := Lib.hid (bl_to HB.out hb2)
          clear hb2
          go_wp2_with fail
          go_roundw
          case rel => exact ⟨j + 1, by omega, by go_num, by rw [hM], HB2.out⟩
          case measure => simp [intOf]; omega
        · have j1 : ¬ (j : Int) < 3 := by omega
          have dj : decide ((j : Int) < 3) = false := decide_eq_false j1
          obtain rfl : j = 3 := by omega
          have hnn : octN c.toNat 3 = c.toNat := rfl
          rw [hnn]
          have w8 : IntKind.u8.wrap (c.toNat : Int) = (c.toNat : Int) := wrap8_in _ (by omega) (by omega)
          clear HX hN w5 k1 dk
          go_wp2_with fail
          go_ret3
          exact ⟨rfl, HB.out⟩
end Go.Proofs.YtnfnjobgkpefdaaDoor
