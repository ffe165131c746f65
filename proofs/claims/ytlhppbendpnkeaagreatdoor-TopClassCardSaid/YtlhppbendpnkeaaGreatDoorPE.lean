/- syntax.Print: Right, anchored, kinds. -/
import Derived.Test.YtlhppbendpnkeaaGreatDoorPD
import Derived.Laws.EntriesVeiled
namespace Go.Proofs.YtlhppbendpnkeaaGreatDoor
set_option linter.unusedSimpArgs false
set_option linter.unusedVariables false
open Go.RowKit

set_option maxRecDepth 100000 in
set_option maxHeartbeats 3200000 in
theorem Right_rep (B : Nat) (f : Nat → Bool) (w : World) (hB : w.heap[B]? = some (.cells (seC f) 30 (0, 0))) :
    Calls Tryz.prog 17 #[.agg (reC (.slice (some ⟨B, 0, none⟩) 1 1))] w fun e w' => e = .returned (.bool true) ∧ Below w.heap.size w w' := by
  have hmm : ∀ W : World, (Instr.makeMap 51 none).run Tryz.prog W = .ok (.map (some W.heap.size)) (W.alloc (.map #[] 0)) := fun W => by simp [go_sem, Instr.makeMap]
  obtain ⟨W1, hW1⟩ : ∃ W, ((w.alloc (.cells (reC (.slice (some ⟨B, 0, none⟩) 1 1)) 30)).alloc (.map #[] 0)).alloc (.cells #[.int .i64 0, .int .i64 0, .map (some (w.heap.size + 1))] 82) = W := ⟨_, rfl⟩
  have HB1 : Hid (Below w.heap.size w W1) := by show Below _ _ _; rw [← hW1]; exact ((bl_alloc _ _).trans ((bl_alloc _ _).mono (by simp))).trans ((bl_alloc _ _).mono (by simp; omega))
  have HC := Lib.hid (right_rep (some ⟨w.heap.size + 1 + 1, 0, none⟩) B f W1 (blk_below hB HB1.out (blk_lt hB)))
  have HW1 := Lib.hid hW1
  unfold reC at HW1 HC ⊢
  clear hW1 hB
  go_enter Tryz.func17, Tryz.ntmps17
  go_wp2_with fail
  rw [HW1.out]
  refine HC.out.mono ?_
  rintro e w2 ⟨rfl, hb2⟩
  have HB2 := Lib.hid (HB1.out.trans (hb2.mono HB1.out.size))
  clear hb2
  go_wp2_with fail
  go_ret
  exact ⟨rfl, HB2.out⟩

set_option maxRecDepth 100000 in
set_option maxHeartbeats 3200000 in
theorem anchored_set (f : Nat → Bool) (w : World) : Calls Tryz.prog 18 #[.agg (seC f)] w fun e w' => e = .returned (.bool true) ∧ Below w.heap.size w w' := by
  unfold seC
  go_enter Tryz.func18, Tryz.ntmps18
  go_wp2_with fail
  refine wp_loop_rounds 1 ?_
  rw [rounds_succ]
  go_wp2_with fail
  go_ret
  exact ⟨rfl, bl_alloc _ _⟩

set_option maxRecDepth 100000 in
set_option maxHeartbeats 3200000 in
theorem anchored_rep (B : Nat) (f : Nat → Bool) (w : World) (hB : w.heap[B]? = some (.cells (seC f) 30 (0, 0))) :
    Calls Tryz.prog 18 #[.agg (reC (.slice (some ⟨B, 0, none⟩) 1 1))] w fun e w' => e = .returned (.bool true) ∧ Below w.heap.size w w' := by
  have HC : Hid (∀ W, Calls Tryz.prog 18 #[.agg (seC f)] W fun e w' => e = .returned (.bool true) ∧ Below W.heap.size W w') := fun W => anchored_set f W
  have hk : ∀ ob, (w.alloc ob).heap[B]? = some (.cells (seC f) 30 (0, 0)) := fun ob => blk_below hB (bl_alloc w ob) (blk_lt hB)
  obtain ⟨W1, hW1⟩ : ∃ W, w.alloc (.cells (reC (.slice (some ⟨B, 0, none⟩) 1 1)) 30) = W := ⟨_, rfl⟩
  have hb1 : Below w.heap.size w W1 := by rw [← hW1]; exact bl_alloc _ _
  obtain ⟨W2, hW2⟩ : ∃ W, W1.alloc (.cells (seC f) 30) = W := ⟨_, rfl⟩
  have HB2 : Hid (Below w.heap.size w W2) := by show Below _ _ _; rw [← hW2]; exact hb1.trans ((bl_alloc _ _).mono hb1.size)
  rw [← hW1] at hW2
  have HW2 := Lib.hid hW2
  unfold reC seC at HW2
  unfold seC at HC hk
  have k0 := fun ob => (blk_at (hk ob) 0 (v := .int .u8 2) rfl).1
  have k1 := fun ob => (blk_at (hk ob) 1 (v := .int .u64 (sW f 0 : Nat)) rfl).1
  have k2 := fun ob => (blk_at (hk ob) 2 (v := .int .u64 (sW f 1 : Nat)) rfl).1
  have k3 := fun ob => (blk_at (hk ob) 3 (v := .int .u64 (sW f 2 : Nat)) rfl).1
  have k4 := fun ob => (blk_at (hk ob) 4 (v := .int .u64 (sW f 3 : Nat)) rfl).1
  have k5 := fun ob => (blk_at (hk ob) 5 (v := .int .i64 0) rfl).1
  have k6 := fun ob => (blk_at (hk ob) 6 (v := .int .i64 0) rfl).1
  have k7 := fun ob => (blk_at (hk ob) 7 (v := .int .i64 0) rfl).1
  have k8 := fun ob => (blk_at (hk ob) 8 (v := .slice none 0 0) rfl).1
  unfold reC
  clear hB hk hW1 hW2 hb1
  go_enter Tryz.func18, Tryz.ntmps18
  go_wp2_with fail
  refine wp_loop_rounds 2 ?_
  rw [rounds_succ]
  go_wp2_with fail
  rw [HW2.out]
  refine (HC.out W2).mono ?_
  rintro e w3 ⟨rfl, hb3⟩
  have HB3 := Lib.hid (HB2.out.trans (hb3.mono HB2.out.size))
  clear hb3
  go_wp2_with fail
  rw [rounds_succ]
  go_wp2_with fail
  go_ret
  exact ⟨rfl, HB3.out⟩

/-- The table of the kinds' writers. -/
def kiC : Array Value := #[.nilFunc, .func (.func 53) #[] #[], .func (.func 54) #[] #[], .func (.func 55) #[] #[], .func (.func 56) #[] #[], .func (.func 57) #[] #[], .func (.func 58) #[] #[], .func (.func 60) #[] #[], .func (.func 63) #[] #[], .func (.func 64) #[] #[]]
set_option maxRecDepth 100000 in
set_option maxHeartbeats 1600000 in
theorem kinds_any (w : World) : Calls Tryz.prog 36 #[] w fun e w' => e = .returned (.agg kiC) ∧ Below w.heap.size w w' := by
  unfold kiC
  go_enter Tryz.func36, Tryz.ntmps36
  go_wp2_with fail
  refine bodyPost_ret (results_cell_row (by rfl) _ _ w.heap.size 84 _ (0, 0) _ (by rfl) (heap_alloc_new _ _) Tryz.underlying84 (by rfl) (by kernel_rfl)) rfl ?_
  exact ⟨rfl, bl_alloc _ _⟩
end Go.Proofs.YtlhppbendpnkeaaGreatDoor
