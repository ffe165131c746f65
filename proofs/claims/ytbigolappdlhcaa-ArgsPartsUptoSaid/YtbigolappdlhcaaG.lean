/- slices.Equal at texts and at pieces. -/
import Derived.Test.YtbigolappdlhcaaF
import Derived.Laws.StructEq
namespace Go.Proofs.Ytbigolappdlhcaa
set_option linter.unusedSimpArgs false
set_option linter.unusedVariables false
open Go.RowKit

set_option maxHeartbeats 1600000 in
theorem EqT_yes (u v : Value) (l : List ByteArray) (w : World) (hu : Tx w u l) (hv : Tx w v l) (hn : l.length ≤ 4611686018427387904) :
    Calls Try.prog 31 #[u, v] w fun e w' => e = .returned (.bool true) ∧ Below w.heap.size w w' := by
  obtain ⟨ao, cap, rfl, hc⟩ := hu
  obtain ⟨ao', cap', rfl, hc'⟩ := hv
  have HC := Lib.hid hc
  have HC' := Lib.hid hc'
  clear hc hc'
  go_enter Try.func31, Try.ntmps31
  go_wp2
  go_loopw [5, 13] (fun _ i wr => ∃ j : Nat, j ≤ l.length ∧ i = .int .i64 j ∧ Below w.heap.size w wr) (fun _ i _ => l.length - (intOf i).toNat)
  case atStart => exact ⟨0, Nat.zero_le _, rfl, Below.refl _ _⟩
  case round =>
    obtain ⟨j, hj, rfl, hbel⟩ := hrel
    by_cases hlt : j < l.length
    · obtain ⟨b, off, rfl, hbl, hc⟩ := HC.out (by omega)
      obtain ⟨b', off', rfl, hbl', hc'⟩ := HC'.out (by omega)
      have k0 := (hbel.cell (p := ⟨b, off + j, none⟩) hbl).trans (hc j hlt)
      have m0 := (hbel.cell (p := ⟨b', off' + j, none⟩) hbl').trans (hc' j hlt)
      generalize l[j] = x at *
      clear hc hc'
      go_wp2_with fail
      have h0 : (0 : Int) ≤ (j : Int) := by omega
      have h1 : (j : Int) < (l.length : Int) := by omega
      go_quiet (fail)
      go_wp2
      go_roundw
      case rel => exact ⟨j + 1, by omega, by go_num, below_drewN hbel _⟩
      case measure => simp [intOf]; omega
    · go_wp2
      go_ret
      exact ⟨rfl, hbel⟩

set_option maxHeartbeats 1600000 in
theorem EqT_any (u v : Value) (l m : List ByteArray) (w : World) (hu : Tx w u l) (hv : Tx w v m) (hn : l.length ≤ 4611686018427387904) (hm : m.length ≤ 4611686018427387904) :
    Calls Try.prog 31 #[u, v] w fun e w' => e = .returned (.bool (decide (l = m))) ∧ Below w.heap.size w w' := by
  by_cases heq : l = m
  · subst heq
    rw [decide_eq_true rfl]
    exact EqT_yes u v l w hu hv hn
  · rw [decide_eq_false heq]
    obtain ⟨ao, cap, rfl, hc⟩ := hu
    obtain ⟨ao', cap', rfl, hc'⟩ := hv
    have HC := Lib.hid hc
    have HC' := Lib.hid hc'
    have HE := Lib.hid heq
    clear hc hc' heq
    by_cases hlen : l.length = m.length
    · have hx := hlen
      rw [hx]
      have HX := Lib.hid hx
      clear hx hlen hn
      go_enter Try.func31, Try.ntmps31
      go_wp2
      go_loopw [5, 13] (fun _ i wr => ∃ j : Nat, j ≤ m.length ∧ i = .int .i64 j ∧ Below w.heap.size w wr ∧ Hid (∀ k (h : k < j) (h1 : k < l.length) (h2 : k < m.length), l[k] = m[k])) (fun _ i _ => m.length - (intOf i).toNat)
      case atStart => exact ⟨0, Nat.zero_le _, rfl, Below.refl _ _, fun k h => by omega⟩
      case round =>
        obtain ⟨j, hj, rfl, hbel, hpre⟩ := hrel
        by_cases hlt : j < m.length
        · have hltl : j < l.length := by rw [HX.out]; exact hlt
          obtain ⟨b, off, rfl, hbl, hc⟩ := HC.out (by omega)
          obtain ⟨b', off', rfl, hbl', hc'⟩ := HC'.out (by omega)
          have k0 := (hbel.cell (p := ⟨b, off + j, none⟩) hbl).trans (hc j hltl)
          have m0 := (hbel.cell (p := ⟨b', off' + j, none⟩) hbl').trans (hc' j hlt)
          by_cases hxy : l[j] = m[j]
          · have hnext : Hid (∀ k (h : k < j + 1) (h1 : k < l.length) (h2 : k < m.length), l[k] = m[k]) := fun k h h1 h2 => by
              rcases Nat.lt_or_ge k j with h' | h'
              · exact hpre.out k h' h1 h2
              · obtain rfl : k = j := by omega
                exact hxy
            rw [hxy] at k0
            generalize m[j] = x at *
            clear hc hc' hxy hltl
            go_wp2_with fail
            have h0 : (0 : Int) ≤ (j : Int) := by omega
            have h1 : (j : Int) < (m.length : Int) := by omega
            go_quiet (fail)
            go_wp2
            go_roundw
            case rel => exact ⟨j + 1, by omega, by go_num, below_drewN hbel _, hnext⟩
            case measure => simp [intOf]; omega
          · generalize l[j] = x at *
            generalize m[j] = z at *
            obtain ⟨e1, e2⟩ := toList_ne hxy
            clear hc hc' hxy hltl
            go_wp2_with fail
            have h0 : (0 : Int) ≤ (j : Int) := by omega
            have h1 : (j : Int) < (m.length : Int) := by omega
            go_quiet (fail)
            go_wp2
            go_ret
            exact ⟨rfl, below_drewN hbel _⟩
        · exact absurd (List.ext_getElem HX.out (fun i h1 h2 => hpre.out i (by omega) h1 h2)) HE.out
    · have hne : ((l.length : Int) != (m.length : Int)) = true := by simp; omega
      clear hlen
      go_enter Try.func31, Try.ntmps31
      go_wp2
      go_ret
      exact ⟨rfl, Below.refl _ _⟩
set_option maxHeartbeats 1600000 in
theorem EqP_yes (u v : Value) (l : List Pc) (w : World) (hu : Sx w u l) (hv : Sx w v l) (hn : l.length ≤ 4611686018427387904) :
    Calls Try.prog 30 #[u, v] w fun e w' => e = .returned (.bool true) ∧ Below w.heap.size w w' := by
  obtain ⟨ao, cap, rfl, hc⟩ := hu
  obtain ⟨ao', cap', rfl, hc'⟩ := hv
  have HC := Lib.hid hc
  have HC' := Lib.hid hc'
  clear hc hc'
  go_enter Try.func30, Try.ntmps30
  go_wp2
  go_loopw [5, 13] (fun _ i wr => ∃ j : Nat, j ≤ l.length ∧ i = .int .i64 j ∧ Below w.heap.size w wr) (fun _ i _ => l.length - (intOf i).toNat)
  case atStart => exact ⟨0, Nat.zero_le _, rfl, Below.refl _ _⟩
  case round =>
    obtain ⟨j, hj, rfl, hbel⟩ := hrel
    by_cases hlt : j < l.length
    · obtain ⟨b, off, rfl, hbl, hc⟩ := HC.out (by omega)
      obtain ⟨b', off', rfl, hbl', hc'⟩ := HC'.out (by omega)
      have k0 := (hbel.cell (p := ⟨b, off + j * 2, none⟩) hbl).trans (hc j hlt).1
      have k1 := (hbel.cell (p := ⟨b, off + j * 2 + 1, none⟩) hbl).trans (hc j hlt).2
      have m0 := (hbel.cell (p := ⟨b', off' + j * 2, none⟩) hbl').trans (hc' j hlt).1
      have m1 := (hbel.cell (p := ⟨b', off' + j * 2 + 1, none⟩) hbl').trans (hc' j hlt).2
      generalize l[j] = x at *
      clear hc hc'
      go_wp2_with fail
      have h0 : (0 : Int) ≤ (j : Int) := by omega
      have h1 : (j : Int) < (l.length : Int) := by omega
      go_quiet (fail)
      go_wp2
      go_roundw
      case rel => exact ⟨j + 1, by omega, by go_num, below_drewN hbel _⟩
      case measure => simp [intOf]; omega
    · go_wp2
      go_ret
      exact ⟨rfl, hbel⟩

set_option maxHeartbeats 1600000 in
theorem EqP_any (u v : Value) (l m : List Pc) (w : World) (hu : Sx w u l) (hv : Sx w v m) (hn : l.length ≤ 4611686018427387904) (hm : m.length ≤ 4611686018427387904) :
    Calls Try.prog 30 #[u, v] w fun e w' => e = .returned (.bool (decide (l = m))) ∧ Below w.heap.size w w' := by
  by_cases heq : l = m
  · subst heq
    rw [decide_eq_true rfl]
    exact EqP_yes u v l w hu hv hn
  · rw [decide_eq_false heq]
    obtain ⟨ao, cap, rfl, hc⟩ := hu
    obtain ⟨ao', cap', rfl, hc'⟩ := hv
    have HC := Lib.hid hc
    have HC' := Lib.hid hc'
    have HE := Lib.hid heq
    clear hc hc' heq
    by_cases hlen : l.length = m.length
    · have hx := hlen
      rw [hx]
      have HX := Lib.hid hx
      clear hx hlen hn
      go_enter Try.func30, Try.ntmps30
      go_wp2
      go_loopw [5, 13] (fun _ i wr => ∃ j : Nat, j ≤ m.length ∧ i = .int .i64 j ∧ Below w.heap.size w wr ∧ Hid (∀ k (h : k < j) (h1 : k < l.length) (h2 : k < m.length), l[k] = m[k])) (fun _ i _ => m.length - (intOf i).toNat)
      case atStart => exact ⟨0, Nat.zero_le _, rfl, Below.refl _ _, fun k h => by omega⟩
      case round =>
        obtain ⟨j, hj, rfl, hbel, hpre⟩ := hrel
        by_cases hlt : j < m.length
        · have hltl : j < l.length := by rw [HX.out]; exact hlt
          obtain ⟨b, off, rfl, hbl, hc⟩ := HC.out (by omega)
          obtain ⟨b', off', rfl, hbl', hc'⟩ := HC'.out (by omega)
          have k0 := (hbel.cell (p := ⟨b, off + j * 2, none⟩) hbl).trans (hc j hltl).1
          have k1 := (hbel.cell (p := ⟨b, off + j * 2 + 1, none⟩) hbl).trans (hc j hltl).2
          have m0 := (hbel.cell (p := ⟨b', off' + j * 2, none⟩) hbl').trans (hc' j hlt).1
          have m1 := (hbel.cell (p := ⟨b', off' + j * 2 + 1, none⟩) hbl').trans (hc' j hlt).2
          by_cases hxy : l[j] = m[j]
          · have hnext : Hid (∀ k (h : k < j + 1) (h1 : k < l.length) (h2 : k < m.length), l[k] = m[k]) := fun k h h1 h2 => by
              rcases Nat.lt_or_ge k j with h' | h'
              · exact hpre.out k h' h1 h2
              · obtain rfl : k = j := by omega
                exact hxy
            rw [hxy] at k0 k1
            generalize m[j] = x at *
            clear hc hc' hxy hltl
            go_wp2_with fail
            have h0 : (0 : Int) ≤ (j : Int) := by omega
            have h1 : (j : Int) < (m.length : Int) := by omega
            go_quiet (fail)
            go_wp2
            go_roundw
            case rel => exact ⟨j + 1, by omega, by go_num, below_drewN hbel _, hnext⟩
            case measure => simp [intOf]; omega
          · generalize l[j] = x at *
            generalize m[j] = z at *
            obtain ⟨xb, xt⟩ := x
            obtain ⟨zb, zt⟩ := z
            clear hc hc' hltl
            have h0 : (0 : Int) ≤ (j : Int) := by omega
            have h1 : (j : Int) < (m.length : Int) := by omega
            by_cases hb : xb = zb
            · have hxt : xt ≠ zt := fun e => hxy (by rw [hb, e])
              obtain ⟨e1, e2⟩ := toList_ne hxt
              subst hb
              clear hxy hxt
              go_wp2_with fail
              go_quiet (fail)
              go_wp2
              go_ret
              exact ⟨rfl, below_drewN hbel _⟩
            · have e1 : (xb == zb) = false := by simpa using hb
              clear hxy hb
              go_wp2_with fail
              go_quiet (fail)
              go_wp2
              go_ret
              exact ⟨rfl, below_drewN hbel _⟩
        · exact absurd (List.ext_getElem HX.out (fun i h1 h2 => hpre.out i (by omega) h1 h2)) HE.out
    · have hne : ((l.length : Int) != (m.length : Int)) = true := by simp; omega
      clear hlen
      go_enter Try.func30, Try.ntmps30
      go_wp2
      go_ret
      exact ⟨rfl, Below.refl _ _⟩
end Go.Proofs.Ytbigolappdlhcaa
