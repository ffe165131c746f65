/- Rows of texts; Texts. -/
import Derived.Test.YtbigolappdlhcaaA
namespace Go.Proofs.Ytbigolappdlhcaa
set_option linter.unusedSimpArgs false
set_option linter.unusedVariables false
open Go.RowKit

/-- v shows the texts l. -/
def Tx (w : World) (v : Value) (l : List ByteArray) : Prop := ∃ ao cap, v = .slice ao l.length cap ∧ (0 < l.length → ∃ b off, ao = some ⟨b, off, none⟩ ∧ b < w.heap.size ∧ ∀ i (hi : i < l.length), w.cell? ⟨b, off + i, none⟩ = some (.string l[i]))

theorem Tx.to {w w' : World} {v : Value} {l : List ByteArray} (h : Tx w v l) (hb : Below w.heap.size w w') : Tx w' v l := by
  obtain ⟨ao, cap, rfl, h2⟩ := h
  refine ⟨ao, cap, rfl, fun hn => ?_⟩
  obtain ⟨b, off, rfl, hl, hc⟩ := h2 hn
  exact ⟨b, off, rfl, Nat.lt_of_lt_of_le hl hb.size, fun i hi => (hb.cell (p := ⟨b, off + i, none⟩) hl).trans (hc i hi)⟩
theorem Tx.ofRd {w : World} {v : Value} {l : List ByteArray} (h : Rd w v l.length 1 (l.map Value.string)) : Tx w v l := by
  obtain ⟨_, ao, cap, rfl, h2⟩ := h
  refine ⟨ao, cap, rfl, fun hn => ?_⟩
  obtain ⟨b, off, rfl, hl, hc⟩ := h2 hn
  exact ⟨b, off, rfl, hl, fun i hi => hc i _ (by simp [hi])⟩
theorem Tx.ofOwn {w : World} {base : Nat} {v : Value} {l : List ByteArray} {e : TypeId} (h : w.ownsRow base e 1 v l.length (l.map Value.string)) : Tx w v l := by
  rcases h.2 with ⟨rfl, h0⟩ | ⟨g, cap, cur, rfl, hb, hgg, rest⟩
  · exact ⟨none, 0, by rw [h0], fun h => by omega⟩
  · refine ⟨_, cap, rfl, fun _ => ⟨g, 0, rfl, lt_of_block hgg, fun i hi => ?_⟩⟩
    have hc := World.ownsRow.cells h (g := g) rfl i (.string l[i]) (by simp [hi])
    have ea : (⟨g, 0, none⟩ : Addr).add i = ⟨g, 0 + i, none⟩ := by unfold Addr.add; split <;> simp_all
    rwa [ea] at hc

set_option maxHeartbeats 1600000 in
theorem Texts_yes (u v : Value) (l : List ByteArray) (w : World) (hu : Tx w u l) (hv : Tx w v l) (hn : l.length ≤ 4611686018427387904) :
    Calls Try.prog 17 #[u, v] w fun e w' => e = .returned (.bool true) ∧ Below w.heap.size w w' := by
  obtain ⟨ao, cap, rfl, hc⟩ := hu
  obtain ⟨ao', cap', rfl, hc'⟩ := hv
  have HC := Lib.hid hc
  have HC' := Lib.hid hc'
  clear hc hc'
  go_enter Try.func17, Try.ntmps17
  go_wp2
  go_loopw [5] (fun i wr => ∃ j : Nat, j ≤ l.length ∧ i = .int .i64 j ∧ Below w.heap.size w wr) (fun i _ => l.length - (intOf i).toNat)
  case atStart => exact ⟨0, Nat.zero_le _, rfl, Below.refl _ _⟩
  case round =>
    obtain ⟨j, hj, rfl, hbel⟩ := hrel
    by_cases hlt : j < l.length
    · obtain ⟨b, off, rfl, hbl, hc⟩ := HC.out (by omega)
      obtain ⟨b', off', rfl, hbl', hc'⟩ := HC'.out (by omega)
      have k0 := (hbel.cell (p := ⟨b, off + j, none⟩) hbl).trans (hc j hlt)
      have m0 := (hbel.cell (p := ⟨b', off' + j, none⟩) hbl').trans (hc' j hlt)
      generalize l[j] = x at *
      clear hc hc'
      go_wp2_with fail
      have h0 : (0 : Int) ≤ (j : Int) := by omega
      have h1 : (j : Int) < (l.length : Int) := by omega
      go_quiet (fail)
      go_wp2
      go_roundw
      case rel => exact ⟨j + 1, by omega, by go_num, below_drewN hbel _⟩
      case measure => simp [intOf]; omega
    · go_wp2
      go_ret
      exact ⟨rfl, hbel⟩

theorem toList_ne {x y : ByteArray} (h : x ≠ y) : (x.toList == y.toList) = false ∧ (x.toList != y.toList) = true := by
  have hne : x.toList ≠ y.toList := by
    intro e
    rw [ByteArray.toList_eq, ByteArray.toList_eq] at e
    exact h (ba_ext e)
  exact ⟨by simpa using hne, by simpa using hne⟩

set_option maxHeartbeats 1600000 in
theorem Texts_any (u v : Value) (l m : List ByteArray) (w : World) (hu : Tx w u l) (hv : Tx w v m) (hn : l.length ≤ 4611686018427387904) (hm : m.length ≤ 4611686018427387904) :
    Calls Try.prog 17 #[u, v] w fun e w' => e = .returned (.bool (decide (l = m))) ∧ Below w.heap.size w w' := by
  by_cases heq : l = m
  · subst heq
    rw [decide_eq_true rfl]
    exact Texts_yes u v l w hu hv hn
  · rw [decide_eq_false heq]
    obtain ⟨ao, cap, rfl, hc⟩ := hu
    obtain ⟨ao', cap', rfl, hc'⟩ := hv
    have HC := Lib.hid hc
    have HC' := Lib.hid hc'
    have HE := Lib.hid heq
    clear hc hc' heq
    by_cases hlen : l.length = m.length
    · have hx := hlen
      rw [hx]
      have HX := Lib.hid hx
      clear hx hlen hn
      go_enter Try.func17, Try.ntmps17
      go_wp2
      go_loopw [5] (fun i wr => ∃ j : Nat, j ≤ m.length ∧ i = .int .i64 j ∧ Below w.heap.size w wr ∧ Hid (∀ k (h : k < j) (h1 : k < l.length) (h2 : k < m.length), l[k] = m[k])) (fun i _ => m.length - (intOf i).toNat)
      case atStart => exact ⟨0, Nat.zero_le _, rfl, Below.refl _ _, fun k h => by omega⟩
      case round =>
        obtain ⟨j, hj, rfl, hbel, hpre⟩ := hrel
        by_cases hlt : j < m.length
        · have hltl : j < l.length := by rw [HX.out]; exact hlt
          obtain ⟨b, off, rfl, hbl, hc⟩ := HC.out (by omega)
          obtain ⟨b', off', rfl, hbl', hc'⟩ := HC'.out (by omega)
          have k0 := (hbel.cell (p := ⟨b, off + j, none⟩) hbl).trans (hc j hltl)
          have m0 := (hbel.cell (p := ⟨b', off' + j, none⟩) hbl').trans (hc' j hlt)
          by_cases hxy : l[j] = m[j]
          · have hnext : Hid (∀ k (h : k < j + 1) (h1 : k < l.length) (h2 : k < m.length), l[k] = m[k]) := fun k h h1 h2 => by
              rcases Nat.lt_or_ge k j with h' | h'
              · exact hpre.out k h' h1 h2
              · obtain rfl : k = j := by omega
                exact hxy
            rw [hxy] at k0
            generalize m[j] = x at *
            clear hc hc' hxy hltl
            go_wp2_with fail
            have h0 : (0 : Int) ≤ (j : Int) := by omega
            have h1 : (j : Int) < (m.length : Int) := by omega
            go_quiet (fail)
            go_wp2
            go_roundw
            case rel => exact ⟨j + 1, by omega, by go_num, below_drewN hbel _, hnext⟩
            case measure => simp [intOf]; omega
          · generalize l[j] = x at *
            generalize m[j] = z at *
            obtain ⟨e1, e2⟩ := toList_ne hxy
            clear hc hc' hxy hltl
            go_wp2_with fail
            have h0 : (0 : Int) ≤ (j : Int) := by omega
            have h1 : (j : Int) < (m.length : Int) := by omega
            go_quiet (fail)
            go_wp2
            go_ret
            exact ⟨rfl, below_drewN hbel _⟩
        · exact absurd (List.ext_getElem HX.out (fun i h1 h2 => hpre.out i (by omega) h1 h2)) HE.out
    · have hne : ((l.length : Int) != (m.length : Int)) = true := by simp; omega
      clear hlen
      go_enter Try.func17, Try.ntmps17
      go_wp2
      go_ret
      exact ⟨rfl, Below.refl _ _⟩
end Go.Proofs.Ytbigolappdlhcaa
