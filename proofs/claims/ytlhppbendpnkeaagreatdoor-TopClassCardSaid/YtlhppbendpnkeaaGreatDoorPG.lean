/- syntax.Print: node (printed by genPG.py). -/
import Derived.Test.YtlhppbendpnkeaaGreatDoorPF
namespace Go.Proofs.YtlhppbendpnkeaaGreatDoor
set_option linter.unusedSimpArgs false
set_option linter.unusedVariables false
open Go.RowKit

theorem set_any (B R : Nat) (x : Bool) (l : Bs) (f : Nat → Bool) (w : World) (h : Wr w B R x l) (hlen : l.length + (setT x f).length ≤ 4096) (hBw : B ≤ w.heap.size) :
    Calls Tryz.prog 54 #[.pointer (some ⟨R, 0, none⟩), .agg (seC f)] w fun e w' => e = .returned (.tuple #[]) ∧ (Wr w' B R x (l ++ setT x f) ∧ Ot B R w w') := by
  cases x with
  | true => exact set_true B R l f w h hlen hBw
  | false => exact set_false B R l f w h hlen hBw

set_option maxRecDepth 100000 in
set_option maxHeartbeats 6400000 in
theorem node_set0 (B R : Nat) (x : Bool) (l : Bs) (f : Nat → Bool) (w : World) (h : Wr w B R x l) (hBw : B ≤ w.heap.size) (HC : ∀ W, Wr W B R x l → B ≤ W.heap.size → Below w.heap.size w W → Calls Tryz.prog 54 #[.pointer (some ⟨R, 0, none⟩), .agg #[.int .u8 2, .int .u64 (sW f 0 : Nat), .int .u64 (sW f 1 : Nat), .int .u64 (sW f 2 : Nat), .int .u64 (sW f 3 : Nat), .int .i64 0, .int .i64 0, .int .i64 0, .slice none 0 0]] W fun e w' => e = .returned (.tuple #[]) ∧ (Wr w' B R x (l ++ setT x f) ∧ Ot B R W w')) :
    Calls Tryz.prog 20 #[.pointer (some ⟨R, 0, none⟩), .agg (seC f)] w fun e w' => e = .returned (.tuple #[]) ∧ (Wr w' B R x (l ++ setT x f) ∧ Ot B R w w') := by
  have hix : ∀ W : World, (Instr.index 84 (.agg kiC) (.int .u8 2)).run Tryz.prog W = .ok (.func (.func 54) #[] #[]) W := fun W => by kernel_rfl
  obtain ⟨W1, hW1⟩ : ∃ W, w.alloc (.cells (seC f) 30) = W := ⟨_, rfl⟩
  have HB1 : Hid (Below w.heap.size w W1) := by show Below _ _ _; rw [← hW1]; exact bl_alloc _ _
  have HN1 : Hid (W1.heap[w.heap.size]? = some (.cells (seC f) 30 (0, 0))) := by show _ = _; rw [← hW1]; exact heap_alloc_new _ _
  have hs1 : w.heap.size ≤ W1.heap.size := HB1.out.size
  have HWr := Lib.hid h
  have HW1 := Lib.hid hW1
  have HC' := Lib.hid HC
  unfold seC at HW1 ⊢
  clear hW1 h HC
  go_enter Tryz.func20, Tryz.ntmps20
  go_wp2_with fail
  rw [HW1.out]
  obtain ⟨n, hn⟩ : ∃ n, w.heap.size = n := ⟨_, rfl⟩
  rw [hn] at HN1 HB1 ⊢
  have HNN := Lib.hid hn
  clear hn
  have s1 : W1.drew.heap[n]? = some (.cells (seC f) 30 (0, 0)) := HN1.out
  refine wp_region_noPanic ?_
  refine wp_region_held_drew (S := fun W' => W'.heap[n]? = some (.cells (seC f) 30 (0, 0))) (by kernel_rfl) s1 (fun hHeld => ?_)
  clear hHeld
  refine wpAnyH_take (i := 1) (v := (.pointer (some ⟨n, 0, none⟩))) rfl (by kernel_rfl) (by kernel_rfl) (by kernel_rfl) (fun _ _ _ h => h) (Or.inl ⟨by rfl, ?_⟩) (by assumption) ?_
  · intro V hV
    unfold seC at hV
    have x0 : V.cell? ⟨n, 0, none⟩ = some (.int .u8 2) := (blk_at hV 0 rfl).1
    have x1 : V.cell? ⟨n, 1, none⟩ = some (.int .u64 (sW f 0 : Nat)) := (blk_at hV 1 rfl).1
    have x2 : V.cell? ⟨n, 2, none⟩ = some (.int .u64 (sW f 1 : Nat)) := (blk_at hV 2 rfl).1
    have x3 : V.cell? ⟨n, 3, none⟩ = some (.int .u64 (sW f 2 : Nat)) := (blk_at hV 3 rfl).1
    have x4 : V.cell? ⟨n, 4, none⟩ = some (.int .u64 (sW f 3 : Nat)) := (blk_at hV 4 rfl).1
    have x5 : V.cell? ⟨n, 5, none⟩ = some (.int .i64 0) := (blk_at hV 5 rfl).1
    have x6 : V.cell? ⟨n, 6, none⟩ = some (.int .i64 0) := (blk_at hV 6 rfl).1
    have x7 : V.cell? ⟨n, 7, none⟩ = some (.int .i64 0) := (blk_at hV 7 rfl).1
    have x8 : V.cell? ⟨n, 8, none⟩ = some (.slice none 0 0) := (blk_at hV 8 rfl).1
    clear hV
    simp only [List.getElem_toArray, List.getElem_cons_zero, List.getElem_cons_succ]
    go_simp
  simp only [List.getElem_toArray, List.getElem_cons_zero, List.getElem_cons_succ, Act.put, List.setIfInBounds_toArray, List.set_cons_zero, List.set_cons_succ]
  refine wpAnyH_take (i := 2) (v := (.int .u8 2)) rfl (by kernel_rfl) (by kernel_rfl) (by kernel_rfl) (fun _ _ _ h => h) (Or.inl ⟨by rfl, ?_⟩) (by assumption) ?_
  · intro V hV
    unfold seC at hV
    have x0 : V.cell? ⟨n, 0, none⟩ = some (.int .u8 2) := (blk_at hV 0 rfl).1
    have x1 : V.cell? ⟨n, 1, none⟩ = some (.int .u64 (sW f 0 : Nat)) := (blk_at hV 1 rfl).1
    have x2 : V.cell? ⟨n, 2, none⟩ = some (.int .u64 (sW f 1 : Nat)) := (blk_at hV 2 rfl).1
    have x3 : V.cell? ⟨n, 3, none⟩ = some (.int .u64 (sW f 2 : Nat)) := (blk_at hV 3 rfl).1
    have x4 : V.cell? ⟨n, 4, none⟩ = some (.int .u64 (sW f 3 : Nat)) := (blk_at hV 4 rfl).1
    have x5 : V.cell? ⟨n, 5, none⟩ = some (.int .i64 0) := (blk_at hV 5 rfl).1
    have x6 : V.cell? ⟨n, 6, none⟩ = some (.int .i64 0) := (blk_at hV 6 rfl).1
    have x7 : V.cell? ⟨n, 7, none⟩ = some (.int .i64 0) := (blk_at hV 7 rfl).1
    have x8 : V.cell? ⟨n, 8, none⟩ = some (.slice none 0 0) := (blk_at hV 8 rfl).1
    clear hV
    simp only [List.getElem_toArray, List.getElem_cons_zero, List.getElem_cons_succ]
    go_simp
  simp only [List.getElem_toArray, List.getElem_cons_zero, List.getElem_cons_succ, Act.put, List.setIfInBounds_toArray, List.set_cons_zero, List.set_cons_succ]
  refine wpAnyH_take (i := 4) (v := (.pointer (some ⟨R, 0, none⟩))) rfl (by kernel_rfl) (by kernel_rfl) (by kernel_rfl) (fun _ _ _ h => h) (Or.inl ⟨by rfl, ?_⟩) (by assumption) ?_
  · intro V hV
    unfold seC at hV
    have x0 : V.cell? ⟨n, 0, none⟩ = some (.int .u8 2) := (blk_at hV 0 rfl).1
    have x1 : V.cell? ⟨n, 1, none⟩ = some (.int .u64 (sW f 0 : Nat)) := (blk_at hV 1 rfl).1
    have x2 : V.cell? ⟨n, 2, none⟩ = some (.int .u64 (sW f 1 : Nat)) := (blk_at hV 2 rfl).1
    have x3 : V.cell? ⟨n, 3, none⟩ = some (.int .u64 (sW f 2 : Nat)) := (blk_at hV 3 rfl).1
    have x4 : V.cell? ⟨n, 4, none⟩ = some (.int .u64 (sW f 3 : Nat)) := (blk_at hV 4 rfl).1
    have x5 : V.cell? ⟨n, 5, none⟩ = some (.int .i64 0) := (blk_at hV 5 rfl).1
    have x6 : V.cell? ⟨n, 6, none⟩ = some (.int .i64 0) := (blk_at hV 6 rfl).1
    have x7 : V.cell? ⟨n, 7, none⟩ = some (.int .i64 0) := (blk_at hV 7 rfl).1
    have x8 : V.cell? ⟨n, 8, none⟩ = some (.slice none 0 0) := (blk_at hV 8 rfl).1
    clear hV
    simp only [List.getElem_toArray, List.getElem_cons_zero, List.getElem_cons_succ]
    go_simp
  simp only [List.getElem_toArray, List.getElem_cons_zero, List.getElem_cons_succ, Act.put, List.setIfInBounds_toArray, List.set_cons_zero, List.set_cons_succ]
  refine wpAnyH_take (i := 5) (v := (.agg #[.int .u8 2, .int .u64 (sW f 0 : Nat), .int .u64 (sW f 1 : Nat), .int .u64 (sW f 2 : Nat), .int .u64 (sW f 3 : Nat), .int .i64 0, .int .i64 0, .int .i64 0, .slice none 0 0])) rfl (by kernel_rfl) (by kernel_rfl) (by kernel_rfl) (fun _ _ _ h => h) (Or.inl ⟨by rfl, ?_⟩) (by assumption) ?_
  · intro V hV
    unfold seC at hV
    have x0 : V.cell? ⟨n, 0, none⟩ = some (.int .u8 2) := (blk_at hV 0 rfl).1
    have x1 : V.cell? ⟨n, 1, none⟩ = some (.int .u64 (sW f 0 : Nat)) := (blk_at hV 1 rfl).1
    have x2 : V.cell? ⟨n, 2, none⟩ = some (.int .u64 (sW f 1 : Nat)) := (blk_at hV 2 rfl).1
    have x3 : V.cell? ⟨n, 3, none⟩ = some (.int .u64 (sW f 2 : Nat)) := (blk_at hV 3 rfl).1
    have x4 : V.cell? ⟨n, 4, none⟩ = some (.int .u64 (sW f 3 : Nat)) := (blk_at hV 4 rfl).1
    have x5 : V.cell? ⟨n, 5, none⟩ = some (.int .i64 0) := (blk_at hV 5 rfl).1
    have x6 : V.cell? ⟨n, 6, none⟩ = some (.int .i64 0) := (blk_at hV 6 rfl).1
    have x7 : V.cell? ⟨n, 7, none⟩ = some (.int .i64 0) := (blk_at hV 7 rfl).1
    have x8 : V.cell? ⟨n, 8, none⟩ = some (.slice none 0 0) := (blk_at hV 8 rfl).1
    clear hV
    simp only [List.getElem_toArray, List.getElem_cons_zero, List.getElem_cons_succ]
    go_simp
  simp only [List.getElem_toArray, List.getElem_cons_zero, List.getElem_cons_succ, Act.put, List.setIfInBounds_toArray, List.set_cons_zero, List.set_cons_succ]
  refine wpAnyH_ready (rs := [0]) (by kernel_rfl) (by simp) ?_
  refine AllReadyH.cons rfl (fun K hK => ?_) AllReadyH.nil
  simp only [List.getElem_toArray, List.getElem_cons_zero, List.getElem_cons_succ]
  go_simp
  refine (kinds_any W1.drew).mono ?_
  rintro e w2 ⟨rfl, hb2⟩
  have s2 : w2.heap[n]? = some (.cells (seC f) 30 (0, 0)) := blk_below s1 hb2 (blk_lt s1)
  have HB2 : Hid (Below w.heap.size w w2) := by
    have h1 : Below w.heap.size w W1.drew := by rw [HNN.out]; exact HB1.out.drew
    exact h1.trans (hb2.mono h1.size)
  refine hK.out _ _ s2 (fun hHeld => ?_)
  clear hK K hHeld hb2
  try simp only [Act.put, List.setIfInBounds_toArray, List.set_cons_zero, List.set_cons_succ]
  refine wpAnyH_take (i := 3) (v := (.func (.func 54) #[] #[])) rfl (by kernel_rfl) (by kernel_rfl) (by kernel_rfl) (fun _ _ _ h => h) (Or.inl ⟨by rfl, ?_⟩) (by assumption) ?_
  · intro V hV
    unfold seC at hV
    have x0 : V.cell? ⟨n, 0, none⟩ = some (.int .u8 2) := (blk_at hV 0 rfl).1
    have x1 : V.cell? ⟨n, 1, none⟩ = some (.int .u64 (sW f 0 : Nat)) := (blk_at hV 1 rfl).1
    have x2 : V.cell? ⟨n, 2, none⟩ = some (.int .u64 (sW f 1 : Nat)) := (blk_at hV 2 rfl).1
    have x3 : V.cell? ⟨n, 3, none⟩ = some (.int .u64 (sW f 2 : Nat)) := (blk_at hV 3 rfl).1
    have x4 : V.cell? ⟨n, 4, none⟩ = some (.int .u64 (sW f 3 : Nat)) := (blk_at hV 4 rfl).1
    have x5 : V.cell? ⟨n, 5, none⟩ = some (.int .i64 0) := (blk_at hV 5 rfl).1
    have x6 : V.cell? ⟨n, 6, none⟩ = some (.int .i64 0) := (blk_at hV 6 rfl).1
    have x7 : V.cell? ⟨n, 7, none⟩ = some (.int .i64 0) := (blk_at hV 7 rfl).1
    have x8 : V.cell? ⟨n, 8, none⟩ = some (.slice none 0 0) := (blk_at hV 8 rfl).1
    clear hV
    simp only [List.getElem_toArray, List.getElem_cons_zero, List.getElem_cons_succ]
    go_simp
  simp only [List.getElem_toArray, List.getElem_cons_zero, List.getElem_cons_succ, Act.put, List.setIfInBounds_toArray, List.set_cons_zero, List.set_cons_succ]
  refine wpAnyH_ready (rs := [6]) (by kernel_rfl) (by simp) ?_
  refine AllReadyH.cons rfl (fun K hK => ?_) AllReadyH.nil
  simp only [List.getElem_toArray, List.getElem_cons_zero, List.getElem_cons_succ]
  go_simp
  have hs2 := HB2.out.size
  refine (HC'.out w2 (HWr.out.to HB2.out) (by omega) HB2.out).mono ?_
  rintro e w3 ⟨rfl, hw3, ho3⟩
  have s3 : w3.heap[n]? = some (.cells (seC f) 30 (0, 0)) := ho3.keep n _ s2 (by have := HWr.out.lt; have := HNN.out; omega) (fun C fr e => by simp only [Obj.cells.injEq] at e; exact absurd e.2.1 (by decide))
  have H3 := Lib.hid hw3
  have O3 := Lib.hid ho3
  refine hK.out _ _ s3 (fun hHeld => ?_)
  clear hK K hHeld hw3 ho3
  try simp only [Act.put, List.setIfInBounds_toArray, List.set_cons_zero, List.set_cons_succ]
  refine wpAnyH_done (by kernel_rfl) (NoPanic.normal ?_) _
  go_wp2_with fail
  go_end0
  exact ⟨rfl, H3.out, (Ot.ofBelow HB2.out hBw).trans O3.out⟩

theorem node_set (B R : Nat) (x : Bool) (l : Bs) (f : Nat → Bool) (w : World) (h : Wr w B R x l) (hlen : l.length + (setT x f).length ≤ 4096) (hBw : B ≤ w.heap.size) :
    Calls Tryz.prog 20 #[.pointer (some ⟨R, 0, none⟩), .agg (seC f)] w fun e w' => e = .returned (.tuple #[]) ∧ (Wr w' B R x (l ++ setT x f) ∧ Ot B R w w') :=
  node_set0 B R x l f w h hBw (fun W hW hb _ => set_any B R x l f W hW hlen hb)

set_option maxRecDepth 100000 in
set_option maxHeartbeats 6400000 in
theorem node_rep0 (B R : Nat) (x : Bool) (l : Bs) (D : Nat) (t : Bs) (w : World) (h : Wr w B R x l) (hBw : B ≤ w.heap.size) (HC : ∀ W, Wr W B R x l → B ≤ W.heap.size → Below w.heap.size w W → Calls Tryz.prog 57 #[.pointer (some ⟨R, 0, none⟩), .agg #[.int .u8 5, .int .u64 0, .int .u64 0, .int .u64 0, .int .u64 0, .int .i64 0, .int .i64 (-1), .int .i64 0, .slice (some ⟨D, 0, none⟩) 1 1]] W fun e w' => e = .returned (.tuple #[]) ∧ (Wr w' B R x (l ++ t) ∧ Ot B R W w')) :
    Calls Tryz.prog 20 #[.pointer (some ⟨R, 0, none⟩), .agg (reC (.slice (some ⟨D, 0, none⟩) 1 1))] w fun e w' => e = .returned (.tuple #[]) ∧ (Wr w' B R x (l ++ t) ∧ Ot B R w w') := by
  have hix : ∀ W : World, (Instr.index 84 (.agg kiC) (.int .u8 5)).run Tryz.prog W = .ok (.func (.func 57) #[] #[]) W := fun W => by kernel_rfl
  obtain ⟨W1, hW1⟩ : ∃ W, w.alloc (.cells (reC (.slice (some ⟨D, 0, none⟩) 1 1)) 30) = W := ⟨_, rfl⟩
  have HB1 : Hid (Below w.heap.size w W1) := by show Below _ _ _; rw [← hW1]; exact bl_alloc _ _
  have HN1 : Hid (W1.heap[w.heap.size]? = some (.cells (reC (.slice (some ⟨D, 0, none⟩) 1 1)) 30 (0, 0))) := by show _ = _; rw [← hW1]; exact heap_alloc_new _ _
  have hs1 : w.heap.size ≤ W1.heap.size := HB1.out.size
  have HWr := Lib.hid h
  have HW1 := Lib.hid hW1
  have HC' := Lib.hid HC
  unfold reC at HW1 ⊢
  clear hW1 h HC
  go_enter Tryz.func20, Tryz.ntmps20
  go_wp2_with fail
  rw [HW1.out]
  obtain ⟨n, hn⟩ : ∃ n, w.heap.size = n := ⟨_, rfl⟩
  rw [hn] at HN1 HB1 ⊢
  have HNN := Lib.hid hn
  clear hn
  have s1 : W1.drew.heap[n]? = some (.cells (reC (.slice (some ⟨D, 0, none⟩) 1 1)) 30 (0, 0)) := HN1.out
  refine wp_region_noPanic ?_
  refine wp_region_held_drew (S := fun W' => W'.heap[n]? = some (.cells (reC (.slice (some ⟨D, 0, none⟩) 1 1)) 30 (0, 0))) (by kernel_rfl) s1 (fun hHeld => ?_)
  clear hHeld
  refine wpAnyH_take (i := 1) (v := (.pointer (some ⟨n, 0, none⟩))) rfl (by kernel_rfl) (by kernel_rfl) (by kernel_rfl) (fun _ _ _ h => h) (Or.inl ⟨by rfl, ?_⟩) (by assumption) ?_
  · intro V hV
    unfold reC at hV
    have x0 : V.cell? ⟨n, 0, none⟩ = some (.int .u8 5) := (blk_at hV 0 rfl).1
    have x1 : V.cell? ⟨n, 1, none⟩ = some (.int .u64 0) := (blk_at hV 1 rfl).1
    have x2 : V.cell? ⟨n, 2, none⟩ = some (.int .u64 0) := (blk_at hV 2 rfl).1
    have x3 : V.cell? ⟨n, 3, none⟩ = some (.int .u64 0) := (blk_at hV 3 rfl).1
    have x4 : V.cell? ⟨n, 4, none⟩ = some (.int .u64 0) := (blk_at hV 4 rfl).1
    have x5 : V.cell? ⟨n, 5, none⟩ = some (.int .i64 0) := (blk_at hV 5 rfl).1
    have x6 : V.cell? ⟨n, 6, none⟩ = some (.int .i64 (-1)) := (blk_at hV 6 rfl).1
    have x7 : V.cell? ⟨n, 7, none⟩ = some (.int .i64 0) := (blk_at hV 7 rfl).1
    have x8 : V.cell? ⟨n, 8, none⟩ = some (.slice (some ⟨D, 0, none⟩) 1 1) := (blk_at hV 8 rfl).1
    clear hV
    simp only [List.getElem_toArray, List.getElem_cons_zero, List.getElem_cons_succ]
    go_simp
  simp only [List.getElem_toArray, List.getElem_cons_zero, List.getElem_cons_succ, Act.put, List.setIfInBounds_toArray, List.set_cons_zero, List.set_cons_succ]
  refine wpAnyH_take (i := 2) (v := (.int .u8 5)) rfl (by kernel_rfl) (by kernel_rfl) (by kernel_rfl) (fun _ _ _ h => h) (Or.inl ⟨by rfl, ?_⟩) (by assumption) ?_
  · intro V hV
    unfold reC at hV
    have x0 : V.cell? ⟨n, 0, none⟩ = some (.int .u8 5) := (blk_at hV 0 rfl).1
    have x1 : V.cell? ⟨n, 1, none⟩ = some (.int .u64 0) := (blk_at hV 1 rfl).1
    have x2 : V.cell? ⟨n, 2, none⟩ = some (.int .u64 0) := (blk_at hV 2 rfl).1
    have x3 : V.cell? ⟨n, 3, none⟩ = some (.int .u64 0) := (blk_at hV 3 rfl).1
    have x4 : V.cell? ⟨n, 4, none⟩ = some (.int .u64 0) := (blk_at hV 4 rfl).1
    have x5 : V.cell? ⟨n, 5, none⟩ = some (.int .i64 0) := (blk_at hV 5 rfl).1
    have x6 : V.cell? ⟨n, 6, none⟩ = some (.int .i64 (-1)) := (blk_at hV 6 rfl).1
    have x7 : V.cell? ⟨n, 7, none⟩ = some (.int .i64 0) := (blk_at hV 7 rfl).1
    have x8 : V.cell? ⟨n, 8, none⟩ = some (.slice (some ⟨D, 0, none⟩) 1 1) := (blk_at hV 8 rfl).1
    clear hV
    simp only [List.getElem_toArray, List.getElem_cons_zero, List.getElem_cons_succ]
    go_simp
  simp only [List.getElem_toArray, List.getElem_cons_zero, List.getElem_cons_succ, Act.put, List.setIfInBounds_toArray, List.set_cons_zero, List.set_cons_succ]
  refine wpAnyH_take (i := 4) (v := (.pointer (some ⟨R, 0, none⟩))) rfl (by kernel_rfl) (by kernel_rfl) (by kernel_rfl) (fun _ _ _ h => h) (Or.inl ⟨by rfl, ?_⟩) (by assumption) ?_
  · intro V hV
    unfold reC at hV
    have x0 : V.cell? ⟨n, 0, none⟩ = some (.int .u8 5) := (blk_at hV 0 rfl).1
    have x1 : V.cell? ⟨n, 1, none⟩ = some (.int .u64 0) := (blk_at hV 1 rfl).1
    have x2 : V.cell? ⟨n, 2, none⟩ = some (.int .u64 0) := (blk_at hV 2 rfl).1
    have x3 : V.cell? ⟨n, 3, none⟩ = some (.int .u64 0) := (blk_at hV 3 rfl).1
    have x4 : V.cell? ⟨n, 4, none⟩ = some (.int .u64 0) := (blk_at hV 4 rfl).1
    have x5 : V.cell? ⟨n, 5, none⟩ = some (.int .i64 0) := (blk_at hV 5 rfl).1
    have x6 : V.cell? ⟨n, 6, none⟩ = some (.int .i64 (-1)) := (blk_at hV 6 rfl).1
    have x7 : V.cell? ⟨n, 7, none⟩ = some (.int .i64 0) := (blk_at hV 7 rfl).1
    have x8 : V.cell? ⟨n, 8, none⟩ = some (.slice (some ⟨D, 0, none⟩) 1 1) := (blk_at hV 8 rfl).1
    clear hV
    simp only [List.getElem_toArray, List.getElem_cons_zero, List.getElem_cons_succ]
    go_simp
  simp only [List.getElem_toArray, List.getElem_cons_zero, List.getElem_cons_succ, Act.put, List.setIfInBounds_toArray, List.set_cons_zero, List.set_cons_succ]
  refine wpAnyH_take (i := 5) (v := (.agg #[.int .u8 5, .int .u64 0, .int .u64 0, .int .u64 0, .int .u64 0, .int .i64 0, .int .i64 (-1), .int .i64 0, .slice (some ⟨D, 0, none⟩) 1 1])) rfl (by kernel_rfl) (by kernel_rfl) (by kernel_rfl) (fun _ _ _ h => h) (Or.inl ⟨by rfl, ?_⟩) (by assumption) ?_
  · intro V hV
    unfold reC at hV
    have x0 : V.cell? ⟨n, 0, none⟩ = some (.int .u8 5) := (blk_at hV 0 rfl).1
    have x1 : V.cell? ⟨n, 1, none⟩ = some (.int .u64 0) := (blk_at hV 1 rfl).1
    have x2 : V.cell? ⟨n, 2, none⟩ = some (.int .u64 0) := (blk_at hV 2 rfl).1
    have x3 : V.cell? ⟨n, 3, none⟩ = some (.int .u64 0) := (blk_at hV 3 rfl).1
    have x4 : V.cell? ⟨n, 4, none⟩ = some (.int .u64 0) := (blk_at hV 4 rfl).1
    have x5 : V.cell? ⟨n, 5, none⟩ = some (.int .i64 0) := (blk_at hV 5 rfl).1
    have x6 : V.cell? ⟨n, 6, none⟩ = some (.int .i64 (-1)) := (blk_at hV 6 rfl).1
    have x7 : V.cell? ⟨n, 7, none⟩ = some (.int .i64 0) := (blk_at hV 7 rfl).1
    have x8 : V.cell? ⟨n, 8, none⟩ = some (.slice (some ⟨D, 0, none⟩) 1 1) := (blk_at hV 8 rfl).1
    clear hV
    simp only [List.getElem_toArray, List.getElem_cons_zero, List.getElem_cons_succ]
    go_simp
  simp only [List.getElem_toArray, List.getElem_cons_zero, List.getElem_cons_succ, Act.put, List.setIfInBounds_toArray, List.set_cons_zero, List.set_cons_succ]
  refine wpAnyH_ready (rs := [0]) (by kernel_rfl) (by simp) ?_
  refine AllReadyH.cons rfl (fun K hK => ?_) AllReadyH.nil
  simp only [List.getElem_toArray, List.getElem_cons_zero, List.getElem_cons_succ]
  go_simp
  refine (kinds_any W1.drew).mono ?_
  rintro e w2 ⟨rfl, hb2⟩
  have s2 : w2.heap[n]? = some (.cells (reC (.slice (some ⟨D, 0, none⟩) 1 1)) 30 (0, 0)) := blk_below s1 hb2 (blk_lt s1)
  have HB2 : Hid (Below w.heap.size w w2) := by
    have h1 : Below w.heap.size w W1.drew := by rw [HNN.out]; exact HB1.out.drew
    exact h1.trans (hb2.mono h1.size)
  refine hK.out _ _ s2 (fun hHeld => ?_)
  clear hK K hHeld hb2
  try simp only [Act.put, List.setIfInBounds_toArray, List.set_cons_zero, List.set_cons_succ]
  refine wpAnyH_take (i := 3) (v := (.func (.func 57) #[] #[])) rfl (by kernel_rfl) (by kernel_rfl) (by kernel_rfl) (fun _ _ _ h => h) (Or.inl ⟨by rfl, ?_⟩) (by assumption) ?_
  · intro V hV
    unfold reC at hV
    have x0 : V.cell? ⟨n, 0, none⟩ = some (.int .u8 5) := (blk_at hV 0 rfl).1
    have x1 : V.cell? ⟨n, 1, none⟩ = some (.int .u64 0) := (blk_at hV 1 rfl).1
    have x2 : V.cell? ⟨n, 2, none⟩ = some (.int .u64 0) := (blk_at hV 2 rfl).1
    have x3 : V.cell? ⟨n, 3, none⟩ = some (.int .u64 0) := (blk_at hV 3 rfl).1
    have x4 : V.cell? ⟨n, 4, none⟩ = some (.int .u64 0) := (blk_at hV 4 rfl).1
    have x5 : V.cell? ⟨n, 5, none⟩ = some (.int .i64 0) := (blk_at hV 5 rfl).1
    have x6 : V.cell? ⟨n, 6, none⟩ = some (.int .i64 (-1)) := (blk_at hV 6 rfl).1
    have x7 : V.cell? ⟨n, 7, none⟩ = some (.int .i64 0) := (blk_at hV 7 rfl).1
    have x8 : V.cell? ⟨n, 8, none⟩ = some (.slice (some ⟨D, 0, none⟩) 1 1) := (blk_at hV 8 rfl).1
    clear hV
    simp only [List.getElem_toArray, List.getElem_cons_zero, List.getElem_cons_succ]
    go_simp
  simp only [List.getElem_toArray, List.getElem_cons_zero, List.getElem_cons_succ, Act.put, List.setIfInBounds_toArray, List.set_cons_zero, List.set_cons_succ]
  refine wpAnyH_ready (rs := [6]) (by kernel_rfl) (by simp) ?_
  refine AllReadyH.cons rfl (fun K hK => ?_) AllReadyH.nil
  simp only [List.getElem_toArray, List.getElem_cons_zero, List.getElem_cons_succ]
  go_simp
  have hs2 := HB2.out.size
  refine (HC'.out w2 (HWr.out.to HB2.out) (by omega) HB2.out).mono ?_
  rintro e w3 ⟨rfl, hw3, ho3⟩
  have s3 : w3.heap[n]? = some (.cells (reC (.slice (some ⟨D, 0, none⟩) 1 1)) 30 (0, 0)) := ho3.keep n _ s2 (by have := HWr.out.lt; have := HNN.out; omega) (fun C fr e => by simp only [Obj.cells.injEq] at e; exact absurd e.2.1 (by decide))
  have H3 := Lib.hid hw3
  have O3 := Lib.hid ho3
  refine hK.out _ _ s3 (fun hHeld => ?_)
  clear hK K hHeld hw3 ho3
  try simp only [Act.put, List.setIfInBounds_toArray, List.set_cons_zero, List.set_cons_succ]
  refine wpAnyH_done (by kernel_rfl) (NoPanic.normal ?_) _
  go_wp2_with fail
  go_end0
  exact ⟨rfl, H3.out, (Ot.ofBelow HB2.out hBw).trans O3.out⟩
end Go.Proofs.YtlhppbendpnkeaaGreatDoor
