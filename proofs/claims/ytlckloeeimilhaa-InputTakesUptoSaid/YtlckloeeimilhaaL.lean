/- Same and asked. -/
import Derived.Test.YtlckloeeimilhaaK
import Derived.Laws.StructEq
namespace Go.Proofs.Ytlckloeeimilhaa
set_option linter.unusedSimpArgs false
set_option linter.unusedVariables false
open Go.RowKit

theorem row_cells {b0 sz n : Nat} {e : TypeId} {w : World} {v : Value} {xs : List Value} (hr : w.ownsRow b0 e sz v n xs) : ∃ ao cap, v = .slice ao n cap ∧ (0 < n → ∃ g, ao = some ⟨g, 0, none⟩ ∧ g < w.heap.size ∧ ∀ j u, xs[j]? = some u → w.cell? ⟨g, j, none⟩ = some u) := by
  rcases hr.2 with ⟨rfl, rfl⟩ | ⟨g, cap, cur, rfl, hb, hgg, hle, rest⟩
  · exact ⟨none, 0, rfl, fun h => by omega⟩
  · refine ⟨_, cap, rfl, fun _ => ⟨g, rfl, lt_of_block hgg, fun j u hu => ?_⟩⟩
    have hc := World.ownsRow.cells hr (g := g) rfl j u hu
    have ea : (⟨g, 0, none⟩ : Addr).add j = ⟨g, 0 + j, none⟩ := by unfold Addr.add; split <;> simp_all
    rw [ea] at hc
    simpa using hc

set_option maxHeartbeats 1600000 in
theorem Same_yes (u v : Value) (l : List Ln) (base base' : Nat) (w : World) (hu : Ls w base u l) (hv : Ls w base' v l) (hn : l.length ≤ 4611686018427387904) :
    Calls Try.prog 15 #[u, v] w fun e w' => e = .returned (.bool true) ∧ Below w.heap.size w w' := by
  obtain ⟨ao, cap, rfl, hc⟩ := row_cells hu
  obtain ⟨ao', cap', rfl, hc'⟩ := row_cells hv
  clear hu hv
  have HC := Lib.hid hc
  have HC' := Lib.hid hc'
  clear hc hc'
  go_enter Try.func15, Try.ntmps15
  go_wp2
  go_loopw [13] (fun i wr => ∃ j : Nat, j ≤ l.length ∧ i = .int .i64 j ∧ Below w.heap.size w wr) (fun i _ => l.length - (intOf i).toNat)
  case atStart => exact ⟨0, Nat.zero_le _, rfl, Below.refl _ _⟩
  case round =>
    obtain ⟨j, hj, rfl, hbel⟩ := hrel
    by_cases hlt : j < l.length
    · obtain ⟨b, rfl, hbl, hc⟩ := HC.out (by omega)
      obtain ⟨b', rfl, hbl', hc'⟩ := HC'.out (by omega)
      have hg := lcells_get l j hlt
      have k0 := (hbel.cell (p := ⟨b, j * 2, none⟩) hbl).trans (hc _ _ hg.1)
      have k1 := (hbel.cell (p := ⟨b, j * 2 + 1, none⟩) hbl).trans (hc _ _ hg.2)
      have m0 := (hbel.cell (p := ⟨b', j * 2, none⟩) hbl').trans (hc' _ _ hg.1)
      have m1 := (hbel.cell (p := ⟨b', j * 2 + 1, none⟩) hbl').trans (hc' _ _ hg.2)
      generalize l[j] = x at *
      clear hc hc' hg
      go_wp2_with fail
      have h0 : (0 : Int) ≤ (j : Int) := by omega
      have h1 : (j : Int) < (l.length : Int) := by omega
      go_quiet (fail)
      go_wp2
      go_roundw
      case rel => exact ⟨j + 1, by omega, by go_num, below_drewN hbel _⟩
      case measure => simp [intOf]; omega
    · go_wp2
      go_ret
      exact ⟨rfl, hbel⟩

theorem range_get (n i : Nat) (hi : i < n) : ((List.range n).map fun (k : Nat) => Value.int .i64 (k : Int))[i]? = some (.int .i64 (i : Int)) := by simp [hi]

set_option maxHeartbeats 1600000 in
theorem asked_any (v : Value) (n : Nat) (base : Nat) (w : World) (hu : w.ownsRow base 3 1 v n ((List.range n).map fun (k : Nat) => Value.int .i64 (k : Int))) (hn : n ≤ 4611686018427387904) :
    Calls Try.prog 16 #[v, .int .i64 n] w fun e w' => e = .returned (.bool true) ∧ w = w' := by
  obtain ⟨ao, cap, rfl, hc⟩ := row_cells hu
  clear hu
  have HC := Lib.hid hc
  clear hc
  go_enter Try.func16, Try.ntmps16
  go_wp2
  go_loopw [9] (fun i wr => ∃ j : Nat, j ≤ n ∧ i = .int .i64 j ∧ wr = w) (fun i _ => n - (intOf i).toNat)
  case atStart => exact ⟨0, Nat.zero_le _, rfl, rfl⟩
  case round =>
    obtain ⟨j, hj, rfl, rfl⟩ := hrel
    by_cases hlt : j < n
    · obtain ⟨b, rfl, hbl, hc⟩ := HC.out (by omega)
      have k0 := hc _ _ (range_get n j hlt)
      clear hc
      go_wp2_with fail
      go_roundw
      case rel => exact ⟨j + 1, by omega, by go_num, trivial⟩
      case measure => simp [intOf]; omega
    · go_wp2
      go_ret
      exact ⟨by simp, rfl⟩
end Go.Proofs.Ytlckloeeimilhaa
