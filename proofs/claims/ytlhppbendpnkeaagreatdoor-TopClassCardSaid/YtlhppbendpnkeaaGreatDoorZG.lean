/- syntax: repeated at a star. -/
import Derived.Test.YtlhppbendpnkeaaGreatDoorME
namespace Go.Proofs.YtlhppbendpnkeaaGreatDoor
set_option linter.unusedSimpArgs false
set_option linter.unusedVariables false
open Go.RowKit

theorem Pa.row {w : World} {R b i : Nat} {s : ByteArray} {x : Bool} {g : Nat} {m : Value} {o : Nat} (h : Pa w R s i x g m o) (hn : R ≠ b) (cs : Array Value) : Pa (w.setRow b cs) R s i x g m o := by
  unfold Pa at *
  rw [setRow_other _ _ _ _ hn]; exact h

set_option maxRecDepth 8000 in
set_option maxHeartbeats 1600000 in
theorem repeated_star (R : Nat) (s : ByteArray) (i : Nat) (x : Bool) (g : Nat) (m : Value) (o : Nat) (a0 a1 a2 a3 a4 a5 a6 a7 a8 : Value) (w : World) (hp : Pa w R s i x g m o) (hi : i < s.size) (hsz : s.size ≤ 65536) (h42 : s[i]'hi = 42)
    (h1 : ∀ v ∈ [a0, a1, a2, a3, a4, a5, a6, a7, a8], v.oneCell' = true) :
    Calls Tryz.prog 46 #[.pointer (some ⟨R, 0, none⟩), .agg #[a0, a1, a2, a3, a4, a5, a6, a7, a8]] w fun e w' =>
      ∃ B, e = .returned (.agg (ndC 5 noneF 0 (-1) 0 (.slice (some ⟨B, 0, none⟩) 1 1))) ∧ w.heap.size ≤ B ∧ w'.heap[B]? = some (.cells #[a0, a1, a2, a3, a4, a5, a6, a7, a8] 30 (0, 0)) ∧ (Pa w' R s (i + 1) x g m o ∧ Ex R w w') := by
  have hRl := blk_lt hp
  have l0 : (i : Int) < (s.size : Int) := by omega
  have l1 : decide ((i : Int) < (s.size : Int)) = true := decide_eq_true l0
  have z0 : (0 : Int) ≤ (i : Int) := by omega
  have q1 : (((s[i]'hi).toNat : Int) == 42) = true := by rw [h42]; rfl
  have q2 : ((s[i]'hi).toNat : Int) = 42 := by rw [h42]; rfl
  have y1 : IntKind.i64.wrap ((i : Int) + 1) = (i : Int) + 1 := wrap_in _ (by omega) (by omega)
  obtain ⟨W1, hW1⟩ : ∃ W, (w.alloc (.cells #[a0, a1, a2, a3, a4, a5, a6, a7, a8] 30)).alloc (.cells zeroC 30) = W := ⟨_, rfl⟩
  have HX1 : Hid (Below w.heap.size w W1) := by rw [← hW1]; exact (bl_alloc _ _).trans ((bl_alloc _ _).mono (by simp))
  have HN1 : Hid (W1.heap[w.heap.size]? = some (.cells #[a0, a1, a2, a3, a4, a5, a6, a7, a8] 30 (0, 0))) := by
    show _ = _
    rw [← hW1, Below.heap_alloc _ _ _ (by simp)]; exact heap_alloc_new _ _
  have HZ1 : Hid (W1.heap[w.heap.size + 1]? = some (.cells zeroC 30 (0, 0))) := by
    show _ = _
    rw [← hW1]; exact heap_alloc2_new _ _ _
  have HP1 : Hid (Pa W1 R s i x g m o) := by rw [← hW1]; exact (hp.to (bl_alloc _ _)).to (bl_alloc _ _)
  have C0 : ∀ k : Bel W1, k.val.cell? ⟨R, 0, none⟩ = some (.string s) := fun k => (HP1.out.to k.below).c0
  have C1 : ∀ k : Bel W1, k.val.cell? ⟨R, 1, none⟩ = some (.int .i64 (i : Int)) := fun k => (HP1.out.to k.below).c1.1
  have HW1 := Lib.hid hW1
  unfold zeroC at HW1
  clear hW1 hp h42
  go_enter Tryz.func46, Tryz.ntmps46
  go_wp2_with fail
  rw [HW1.out]
  refine region_bel W1 (Below.refl _ _) (by kernel_rfl) (by kernel_rfl) ?_
  repeat (go_big_quiet_step (fail))
  refine wpQuiet_nil ?_
  intro k
  have k1 := C1 k
  have kf := (HP1.out.to k.below).c1.2
  have hN := blk_below HN1.out k.below (blk_lt HN1.out)
  have hZ := blk_below HZ1.out k.below (blk_lt HZ1.out)
  obtain ⟨n0, -⟩ := blk_at hN 0 rfl
  obtain ⟨n1, -⟩ := blk_at hN 1 rfl
  obtain ⟨n2, -⟩ := blk_at hN 2 rfl
  obtain ⟨n3, -⟩ := blk_at hN 3 rfl
  obtain ⟨n4, -⟩ := blk_at hN 4 rfl
  obtain ⟨n5, -⟩ := blk_at hN 5 rfl
  obtain ⟨n6, -⟩ := blk_at hN 6 rfl
  obtain ⟨n7, -⟩ := blk_at hN 7 rfl
  obtain ⟨n8, -⟩ := blk_at hN 8 rfl
  have b1 : ¬ w.heap.size = R := by omega
  have b2 : ¬ R = w.heap.size := by omega
  have b3 : ¬ w.heap.size + 1 = R := by omega
  have b4 : ¬ R = w.heap.size + 1 := by omega
  have HA : Hid (∀ ob, ((k.val.setCell ⟨R, 1, none⟩ (.int .i64 ((i : Int) + 1))).alloc ob).heap[w.heap.size + 1]? = some (.cells zeroC 30 (0, 0))) := fun ob => by
    rw [Below.heap_alloc _ _ _ (by simp only [World.size_setCell]; exact blk_lt hZ), Below.heap_setCell _ _ _ _ (by show w.heap.size + 1 ≠ R; omega)]; exact hZ
  have y0' : ∀ ob, ((k.val.setCell ⟨R, 1, none⟩ (.int .i64 ((i : Int) + 1))).alloc ob).cell? ⟨w.heap.size + 1, 0, none⟩ = some (.int .u8 0) := fun ob => (blk_at (HA.out ob) 0 rfl).1
  have g0' : ∀ ob, ((k.val.setCell ⟨R, 1, none⟩ (.int .i64 ((i : Int) + 1))).alloc ob).frozen? ⟨w.heap.size + 1, 0, none⟩ = false := fun ob => (blk_at (HA.out ob) 0 (v := .int .u8 0) rfl).2
  have y1' : ∀ ob, ((k.val.setCell ⟨R, 1, none⟩ (.int .i64 ((i : Int) + 1))).alloc ob).cell? ⟨w.heap.size + 1, 1, none⟩ = some (.int .u64 0) := fun ob => (blk_at (HA.out ob) 1 rfl).1
  have g1' : ∀ ob, ((k.val.setCell ⟨R, 1, none⟩ (.int .i64 ((i : Int) + 1))).alloc ob).frozen? ⟨w.heap.size + 1, 1, none⟩ = false := fun ob => (blk_at (HA.out ob) 1 (v := .int .u64 0) rfl).2
  have y2' : ∀ ob, ((k.val.setCell ⟨R, 1, none⟩ (.int .i64 ((i : Int) + 1))).alloc ob).cell? ⟨w.heap.size + 1, 2, none⟩ = some (.int .u64 0) := fun ob => (blk_at (HA.out ob) 2 rfl).1
  have g2' : ∀ ob, ((k.val.setCell ⟨R, 1, none⟩ (.int .i64 ((i : Int) + 1))).alloc ob).frozen? ⟨w.heap.size + 1, 2, none⟩ = false := fun ob => (blk_at (HA.out ob) 2 (v := .int .u64 0) rfl).2
  have y3' : ∀ ob, ((k.val.setCell ⟨R, 1, none⟩ (.int .i64 ((i : Int) + 1))).alloc ob).cell? ⟨w.heap.size + 1, 3, none⟩ = some (.int .u64 0) := fun ob => (blk_at (HA.out ob) 3 rfl).1
  have g3' : ∀ ob, ((k.val.setCell ⟨R, 1, none⟩ (.int .i64 ((i : Int) + 1))).alloc ob).frozen? ⟨w.heap.size + 1, 3, none⟩ = false := fun ob => (blk_at (HA.out ob) 3 (v := .int .u64 0) rfl).2
  have y4' : ∀ ob, ((k.val.setCell ⟨R, 1, none⟩ (.int .i64 ((i : Int) + 1))).alloc ob).cell? ⟨w.heap.size + 1, 4, none⟩ = some (.int .u64 0) := fun ob => (blk_at (HA.out ob) 4 rfl).1
  have g4' : ∀ ob, ((k.val.setCell ⟨R, 1, none⟩ (.int .i64 ((i : Int) + 1))).alloc ob).frozen? ⟨w.heap.size + 1, 4, none⟩ = false := fun ob => (blk_at (HA.out ob) 4 (v := .int .u64 0) rfl).2
  have y5' : ∀ ob, ((k.val.setCell ⟨R, 1, none⟩ (.int .i64 ((i : Int) + 1))).alloc ob).cell? ⟨w.heap.size + 1, 5, none⟩ = some (.int .i64 0) := fun ob => (blk_at (HA.out ob) 5 rfl).1
  have g5' : ∀ ob, ((k.val.setCell ⟨R, 1, none⟩ (.int .i64 ((i : Int) + 1))).alloc ob).frozen? ⟨w.heap.size + 1, 5, none⟩ = false := fun ob => (blk_at (HA.out ob) 5 (v := .int .i64 0) rfl).2
  have y6' : ∀ ob, ((k.val.setCell ⟨R, 1, none⟩ (.int .i64 ((i : Int) + 1))).alloc ob).cell? ⟨w.heap.size + 1, 6, none⟩ = some (.int .i64 0) := fun ob => (blk_at (HA.out ob) 6 rfl).1
  have g6' : ∀ ob, ((k.val.setCell ⟨R, 1, none⟩ (.int .i64 ((i : Int) + 1))).alloc ob).frozen? ⟨w.heap.size + 1, 6, none⟩ = false := fun ob => (blk_at (HA.out ob) 6 (v := .int .i64 0) rfl).2
  have y7' : ∀ ob, ((k.val.setCell ⟨R, 1, none⟩ (.int .i64 ((i : Int) + 1))).alloc ob).cell? ⟨w.heap.size + 1, 7, none⟩ = some (.int .i64 0) := fun ob => (blk_at (HA.out ob) 7 rfl).1
  have g7' : ∀ ob, ((k.val.setCell ⟨R, 1, none⟩ (.int .i64 ((i : Int) + 1))).alloc ob).frozen? ⟨w.heap.size + 1, 7, none⟩ = false := fun ob => (blk_at (HA.out ob) 7 (v := .int .i64 0) rfl).2
  have y8' : ∀ ob, ((k.val.setCell ⟨R, 1, none⟩ (.int .i64 ((i : Int) + 1))).alloc ob).cell? ⟨w.heap.size + 1, 8, none⟩ = some (.slice none 0 0) := fun ob => (blk_at (HA.out ob) 8 rfl).1
  have g8' : ∀ ob, ((k.val.setCell ⟨R, 1, none⟩ (.int .i64 ((i : Int) + 1))).alloc ob).frozen? ⟨w.heap.size + 1, 8, none⟩ = false := fun ob => (blk_at (HA.out ob) 8 (v := .slice none 0 0) rfl).2
  have HN := Lib.hid hN
  have HZ := Lib.hid hZ
  clear C0 C1 hN hZ
  go_wp2_with fail
  rw [nine_row (HA.out _)]
  have hks : w.heap.size + 1 < k.val.heap.size := blk_lt HZ.out
  have hPk := HP1.out.to k.below
  refine bodyPost_ret (results_cell_row (by rfl) _ _ (w.heap.size + 1) 30 #[.int .u8 5, .int .u64 0, .int .u64 0, .int .u64 0, .int .u64 0, .int .i64 0, .int .i64 (-1), .int .i64 0, .slice (some ⟨k.val.heap.size, 0, none⟩) 1 1] (0, 0) _ (by rfl) (setRow_heap _ _ _ _ _ _ (HA.out _)) Tryz.underlying30 (by rfl) info30) rfl ?_
  refine ⟨k.val.heap.size, ?_, by omega, ?_, ?_, ?_⟩
  · unfold ndC; simp only [sW_none]; rfl
  · rw [setRow_other _ _ _ _ (by omega)]
    have h := heap_alloc_new (k.val.setCell ⟨R, 1, none⟩ (.int .i64 ((i : Int) + 1))) (.cells #[a0, a1, a2, a3, a4, a5, a6, a7, a8] 30)
    rwa [World.size_setCell] at h
  · have h := hPk.set (i + 1)
    rw [show ((i + 1 : Nat) : Int) = (i : Int) + 1 by omega] at h
    exact (h.to (bl_alloc _ _)).row (by omega) _
  · exact ((((Ex.ofBelow HX1.out).trans (Ex.ofBelow k.below)).set 1 _).trans (Ex.ofBelow (bl_alloc _ _))).row (by omega) _
end Go.Proofs.YtlhppbendpnkeaaGreatDoor
