/- syntax.Print: right at a star (printed by genPD.py). -/
import Derived.Test.YtlhppbendpnkeaaGreatDoorMJ
namespace Go.Proofs.YtlhppbendpnkeaaGreatDoor
set_option linter.unusedSimpArgs false
set_option linter.unusedVariables false
open Go.RowKit

set_option maxRecDepth 100000 in
set_option maxHeartbeats 12800000 in
theorem right_rep (v : Option Addr) (B : Nat) (f : Nat → Bool) (w : World) (hB : w.heap[B]? = some (.cells (seC f) 30 (0, 0))) :
    Calls Tryz.prog 35 #[.pointer v, .agg (reC (.slice (some ⟨B, 0, none⟩) 1 1))] w fun e w' => e = .returned (.bool true) ∧ Below w.heap.size w w' := by
  have hmf : ∀ (fn : Fn) (first cap : Array Value) (w : World), (Instr.makeFunc fn first cap).run Tryz.prog w = .ok (.func fn first cap) w := fun _ _ _ _ => rfl
  obtain ⟨W1, hW1⟩ : ∃ W, (w.alloc (.cells #[.pointer v] 80)).alloc (.cells (reC (.slice (some ⟨B, 0, none⟩) 1 1)) 30) = W := ⟨_, rfl⟩
  have HB1 : Hid (Below w.heap.size w W1) := by show Below _ _ _; rw [← hW1]; exact (bl_alloc _ _).trans ((bl_alloc _ _).mono (by simp))
  have HN1 : Hid (W1.heap[w.heap.size + 1]? = some (.cells (reC (.slice (some ⟨B, 0, none⟩) 1 1)) 30 (0, 0))) := by show _ = _; rw [← hW1]; exact heap_alloc2_new _ _ _
  have HL1 : Hid (W1.heap[w.heap.size]? = some (.cells #[.pointer v] 80 (0, 0))) := by show _ = _; rw [← hW1, Below.heap_alloc _ _ _ (by simp)]; exact heap_alloc_new _ _
  have HK1 := Lib.hid (blk_below hB HB1.out (blk_lt hB))
  have HBR : Hid (∀ W, Calls Tryz.prog 47 #[.agg (reC (.slice (some ⟨B, 0, none⟩) 1 1))] W fun e w' => e = .returned (.bool true) ∧ Below W.heap.size W w') := fun W => bare_rep _ _ _ W
  have HW1 := Lib.hid hW1
  unfold reC at HW1 HBR ⊢
  clear hW1 hB
  go_enter Tryz.func35, Tryz.ntmps35
  go_wp2_with fail
  rw [HW1.out]
  refine (HBR.out W1).mono ?_
  rintro e w2 ⟨rfl, hb2⟩
  have hn := blk_below HN1.out hb2 (blk_lt HN1.out)
  have hk := blk_below HK1.out hb2 (blk_lt HK1.out)
  have HL2 := Lib.hid (blk_below HL1.out hb2 (blk_lt HL1.out))
  have HK2 := Lib.hid hk
  have HN2 := Lib.hid hn
  have HB2 := Lib.hid (HB1.out.trans (hb2.mono HB1.out.size))
  have hln := blk_lt hn
  have hlk := blk_lt hk
  unfold reC at hn
  unfold seC at hk
  have c0 := (blk_at hn 0 rfl).1
  have c5 := (blk_at hn 5 rfl).1
  have c6 := (blk_at hn 6 rfl).1
  have c8 := (blk_at hn 8 rfl).1
  have k0 := (blk_at hk 0 rfl).1
  have k1 := (blk_at hk 1 rfl).1
  have k2 := (blk_at hk 2 rfl).1
  have k3 := (blk_at hk 3 rfl).1
  have k4 := (blk_at hk 4 rfl).1
  have k5 := (blk_at hk 5 rfl).1
  have k6 := (blk_at hk 6 rfl).1
  have k7 := (blk_at hk 7 rfl).1
  have k8 := (blk_at hk 8 rfl).1
  simp only [List.getElem_toArray, List.getElem_cons_zero, List.getElem_cons_succ] at c0 c5 c6 c8 k0 k1 k2 k3 k4 k5 k6 k7 k8
  clear hn hk hb2
  go_wp2_with fail
  obtain ⟨n, hn⟩ : ∃ n, w.heap.size + 1 = n := ⟨_, rfl⟩
  have s1 : Below w2.heap.size w2 w2.drew := (Below.refl _ _).drew
  refine wp_region_noPanic ?_
  refine wp_region_held_drew (S := fun W' => Below w2.heap.size w2 W') (by kernel_rfl) s1 (fun hHeld => ?_)
  have rd : ∀ V, Below w2.heap.size w2 V → V.cell? ⟨w.heap.size + 1, 5, none⟩ = some (.int .i64 0) ∧ V.cell? ⟨w.heap.size + 1, 6, none⟩ = some (.int .i64 (-1)) ∧ V.cell? ⟨w.heap.size + 1, 8, none⟩ = some (.slice (some ⟨B, 0, none⟩) 1 1) ∧
      V.cell? ⟨B, 0, none⟩ = some (.int .u8 2) ∧ V.cell? ⟨B, 1, none⟩ = some (.int .u64 (sW f 0 : Nat)) ∧ V.cell? ⟨B, 2, none⟩ = some (.int .u64 (sW f 1 : Nat)) ∧ V.cell? ⟨B, 3, none⟩ = some (.int .u64 (sW f 2 : Nat)) ∧ V.cell? ⟨B, 4, none⟩ = some (.int .u64 (sW f 3 : Nat)) ∧
      V.cell? ⟨B, 5, none⟩ = some (.int .i64 0) ∧ V.cell? ⟨B, 6, none⟩ = some (.int .i64 0) ∧ V.cell? ⟨B, 7, none⟩ = some (.int .i64 0) ∧ V.cell? ⟨B, 8, none⟩ = some (.slice none 0 0) := fun V hV =>
    ⟨bl_cell hV c5, bl_cell hV c6, bl_cell hV c8, bl_cell hV k0, bl_cell hV k1, bl_cell hV k2, bl_cell hV k3, bl_cell hV k4, bl_cell hV k5, bl_cell hV k6, bl_cell hV k7, bl_cell hV k8⟩
  have RD := Lib.hid rd
  clear rd hn
  refine wpAnyH_take (i := 0) (v := (.pointer (some ⟨w.heap.size + 1, 8, none⟩))) rfl (by kernel_rfl) (by kernel_rfl) (by kernel_rfl) (fun _ _ _ h => h) (Or.inl ⟨by rfl, ?_⟩) (by assumption) ?_
  · intro V hV
    obtain ⟨u5, u6, u8, x0, x1, x2, x3, x4, x5, x6, x7, x8⟩ := RD.out V hV
    simp only [List.getElem_toArray, List.getElem_cons_zero, List.getElem_cons_succ]
    go_simp
  simp only [List.getElem_toArray, List.getElem_cons_zero, List.getElem_cons_succ, Act.put, List.setIfInBounds_toArray, List.set_cons_zero, List.set_cons_succ]
  refine wpAnyH_take (i := 1) (v := (.slice (some ⟨B, 0, none⟩) 1 1)) rfl (by kernel_rfl) (by kernel_rfl) (by kernel_rfl) (fun _ _ _ h => h) (Or.inl ⟨by rfl, ?_⟩) (by assumption) ?_
  · intro V hV
    obtain ⟨u5, u6, u8, x0, x1, x2, x3, x4, x5, x6, x7, x8⟩ := RD.out V hV
    simp only [List.getElem_toArray, List.getElem_cons_zero, List.getElem_cons_succ]
    go_simp
  simp only [List.getElem_toArray, List.getElem_cons_zero, List.getElem_cons_succ, Act.put, List.setIfInBounds_toArray, List.set_cons_zero, List.set_cons_succ]
  refine wpAnyH_take (i := 2) (v := (.int .i64 1)) rfl (by kernel_rfl) (by kernel_rfl) (by kernel_rfl) (fun _ _ _ h => h) (Or.inl ⟨by rfl, ?_⟩) (by assumption) ?_
  · intro V hV
    obtain ⟨u5, u6, u8, x0, x1, x2, x3, x4, x5, x6, x7, x8⟩ := RD.out V hV
    simp only [List.getElem_toArray, List.getElem_cons_zero, List.getElem_cons_succ]
    go_simp
  simp only [List.getElem_toArray, List.getElem_cons_zero, List.getElem_cons_succ, Act.put, List.setIfInBounds_toArray, List.set_cons_zero, List.set_cons_succ]
  refine wpAnyH_take (i := 3) (v := (.bool false)) rfl (by kernel_rfl) (by kernel_rfl) (by kernel_rfl) (fun _ _ _ h => h) (Or.inl ⟨by rfl, ?_⟩) (by assumption) ?_
  · intro V hV
    obtain ⟨u5, u6, u8, x0, x1, x2, x3, x4, x5, x6, x7, x8⟩ := RD.out V hV
    simp only [List.getElem_toArray, List.getElem_cons_zero, List.getElem_cons_succ]
    go_simp
  simp only [List.getElem_toArray, List.getElem_cons_zero, List.getElem_cons_succ, Act.put, List.setIfInBounds_toArray, List.set_cons_zero, List.set_cons_succ]
  refine wpAnyH_take (i := 4) (v := (.bool false)) rfl (by kernel_rfl) (by kernel_rfl) (by kernel_rfl) (fun _ _ _ h => h) (Or.inl ⟨by rfl, ?_⟩) (by assumption) ?_
  · intro V hV
    obtain ⟨u5, u6, u8, x0, x1, x2, x3, x4, x5, x6, x7, x8⟩ := RD.out V hV
    simp only [List.getElem_toArray, List.getElem_cons_zero, List.getElem_cons_succ]
    go_simp
  simp only [List.getElem_toArray, List.getElem_cons_zero, List.getElem_cons_succ, Act.put, List.setIfInBounds_toArray, List.set_cons_zero, List.set_cons_succ]
  refine wpAnyH_take (i := 5) (v := (.func (.func 48) #[] #[])) rfl (by kernel_rfl) (by kernel_rfl) (by kernel_rfl) (fun _ _ _ h => h) (Or.inl ⟨by rfl, ?_⟩) (by assumption) ?_
  · intro V hV
    obtain ⟨u5, u6, u8, x0, x1, x2, x3, x4, x5, x6, x7, x8⟩ := RD.out V hV
    simp only [List.getElem_toArray, List.getElem_cons_zero, List.getElem_cons_succ]
    go_simp
  simp only [List.getElem_toArray, List.getElem_cons_zero, List.getElem_cons_succ, Act.put, List.setIfInBounds_toArray, List.set_cons_zero, List.set_cons_succ]
  refine wpAnyH_take (i := 8) (v := (.pointer (some ⟨w.heap.size + 1, 8, none⟩))) rfl (by kernel_rfl) (by kernel_rfl) (by kernel_rfl) (fun _ _ _ h => h) (Or.inl ⟨by rfl, ?_⟩) (by assumption) ?_
  · intro V hV
    obtain ⟨u5, u6, u8, x0, x1, x2, x3, x4, x5, x6, x7, x8⟩ := RD.out V hV
    simp only [List.getElem_toArray, List.getElem_cons_zero, List.getElem_cons_succ]
    go_simp
  simp only [List.getElem_toArray, List.getElem_cons_zero, List.getElem_cons_succ, Act.put, List.setIfInBounds_toArray, List.set_cons_zero, List.set_cons_succ]
  refine wpAnyH_take (i := 9) (v := (.slice (some ⟨B, 0, none⟩) 1 1)) rfl (by kernel_rfl) (by kernel_rfl) (by kernel_rfl) (fun _ _ _ h => h) (Or.inl ⟨by rfl, ?_⟩) (by assumption) ?_
  · intro V hV
    obtain ⟨u5, u6, u8, x0, x1, x2, x3, x4, x5, x6, x7, x8⟩ := RD.out V hV
    simp only [List.getElem_toArray, List.getElem_cons_zero, List.getElem_cons_succ]
    go_simp
  simp only [List.getElem_toArray, List.getElem_cons_zero, List.getElem_cons_succ, Act.put, List.setIfInBounds_toArray, List.set_cons_zero, List.set_cons_succ]
  refine wpAnyH_take (i := 10) (v := (.pointer (some ⟨B, 0, none⟩))) rfl (by kernel_rfl) (by kernel_rfl) (by kernel_rfl) (fun _ _ _ h => h) (Or.inl ⟨by rfl, ?_⟩) (by assumption) ?_
  · intro V hV
    obtain ⟨u5, u6, u8, x0, x1, x2, x3, x4, x5, x6, x7, x8⟩ := RD.out V hV
    simp only [List.getElem_toArray, List.getElem_cons_zero, List.getElem_cons_succ]
    go_simp
  simp only [List.getElem_toArray, List.getElem_cons_zero, List.getElem_cons_succ, Act.put, List.setIfInBounds_toArray, List.set_cons_zero, List.set_cons_succ]
  refine wpAnyH_take (i := 11) (v := (.agg #[.int .u8 2, .int .u64 (sW f 0 : Nat), .int .u64 (sW f 1 : Nat), .int .u64 (sW f 2 : Nat), .int .u64 (sW f 3 : Nat), .int .i64 0, .int .i64 0, .int .i64 0, .slice none 0 0])) rfl (by kernel_rfl) (by kernel_rfl) (by kernel_rfl) (fun _ _ _ h => h) (Or.inl ⟨by rfl, ?_⟩) (by assumption) ?_
  · intro V hV
    obtain ⟨u5, u6, u8, x0, x1, x2, x3, x4, x5, x6, x7, x8⟩ := RD.out V hV
    simp only [List.getElem_toArray, List.getElem_cons_zero, List.getElem_cons_succ]
    go_simp
  simp only [List.getElem_toArray, List.getElem_cons_zero, List.getElem_cons_succ, Act.put, List.setIfInBounds_toArray, List.set_cons_zero, List.set_cons_succ]
  refine wpAnyH_ready (rs := [6]) (by kernel_rfl) (by simp) ?_
  refine AllReadyH.cons rfl (fun K hK => ?_) AllReadyH.nil
  simp only [List.getElem_toArray, List.getElem_cons_zero, List.getElem_cons_succ]
  go_simp
  have s2 : Below w2.heap.size w2 (w2.alloc (.cells #[.int .u8 2, .int .u8 6, .int .u8 7] 27)).drew := ((Below.refl _ _).alloc (Nat.le_refl _) _).drew
  refine hK.out _ _ s2 (fun hHeld => ?_)
  clear hK K
  try simp only [Act.put, List.setIfInBounds_toArray, List.set_cons_zero, List.set_cons_succ]
  obtain ⟨w3, hw3⟩ : ∃ W, (w2.alloc (.cells #[.int .u8 2, .int .u8 6, .int .u8 7] 27)).drew = W := ⟨_, rfl⟩
  have H3 : Hid (w3.heap[w2.heap.size]? = some (.cells #[.int .u8 2, .int .u8 6, .int .u8 7] 27 (0, 0))) := by show _ = _; rw [← hw3]; exact heap_alloc_new w2 _
  have hs3 : w3.heap.size = w2.heap.size + 1 := by rw [← hw3]; show (w2.alloc _).heap.size = _; simp
  rw [hw3] at s2 ⊢
  have HS3 := Lib.hid hs3
  have HW3 := Lib.hid hw3
  clear hs3 hw3 hHeld
  refine wpAnyH_ready (rs := [7]) (by kernel_rfl) (by simp) ?_
  refine AllReadyH.cons rfl (fun K hK => ?_) AllReadyH.nil
  simp only [List.getElem_toArray, List.getElem_cons_zero, List.getElem_cons_succ]
  go_simp
  refine (is_any w2.heap.size 3 w3).mono ?_
  rintro e w4 ⟨rfl, hw4⟩
  have s4 : Below w2.heap.size w2 w4 := by rw [hw4]; exact s2.alloc (by have := HS3.out; omega) _
  have H4 : Hid (w4.heap[w2.heap.size]? = some (.cells #[.int .u8 2, .int .u8 6, .int .u8 7] 27 (0, 0))) := by
    show _ = _
    rw [hw4, Below.heap_alloc _ _ _ (blk_lt H3.out)]; exact H3.out
  have P4 : Hid (w4.heap[w3.heap.size]? = some (.cells #[.slice (some ⟨w2.heap.size, 0, none⟩) 3 3] 95 (0, 0))) := by show _ = _; rw [hw4]; exact heap_alloc_new _ _
  refine hK.out _ _ s4 (fun hHeld => ?_)
  clear hK K hw4 hHeld
  try simp only [Act.put, List.setIfInBounds_toArray, List.set_cons_zero, List.set_cons_succ]
  refine wpAnyH_ready (rs := [12]) (by kernel_rfl) (by simp) ?_
  refine AllReadyH.cons rfl (fun K hK => ?_) AllReadyH.nil
  simp only [List.getElem_toArray, List.getElem_cons_zero, List.getElem_cons_succ]
  go_simp
  refine (is_set w3.heap.size w2.heap.size 3 f w4 P4.out H4.out).mono ?_
  rintro e w5 ⟨rfl, hb5⟩
  have s5 : Below w2.heap.size w2 w5 := s4.trans (hb5.mono s4.size)
  refine hK.out _ _ s5 (fun hHeld => ?_)
  clear hK K hHeld hb5
  try simp only [Act.put, List.setIfInBounds_toArray, List.set_cons_zero, List.set_cons_succ]
  refine wpAnyH_take (i := 13) (v := (.bool false)) rfl (by kernel_rfl) (by kernel_rfl) (by kernel_rfl) (fun _ _ _ h => h) (Or.inl ⟨by rfl, ?_⟩) (by assumption) ?_
  · intro V hV
    obtain ⟨u5, u6, u8, x0, x1, x2, x3, x4, x5, x6, x7, x8⟩ := RD.out V hV
    simp only [List.getElem_toArray, List.getElem_cons_zero, List.getElem_cons_succ]
    go_simp
  simp only [List.getElem_toArray, List.getElem_cons_zero, List.getElem_cons_succ, Act.put, List.setIfInBounds_toArray, List.set_cons_zero, List.set_cons_succ]
  refine wpAnyH_take (i := 14) (v := (.bool false)) rfl (by kernel_rfl) (by kernel_rfl) (by kernel_rfl) (fun _ _ _ h => h) (Or.inl ⟨by rfl, ?_⟩) (by assumption) ?_
  · intro V hV
    obtain ⟨u5, u6, u8, x0, x1, x2, x3, x4, x5, x6, x7, x8⟩ := RD.out V hV
    simp only [List.getElem_toArray, List.getElem_cons_zero, List.getElem_cons_succ]
    go_simp
  simp only [List.getElem_toArray, List.getElem_cons_zero, List.getElem_cons_succ, Act.put, List.setIfInBounds_toArray, List.set_cons_zero, List.set_cons_succ]
  refine wpAnyH_take (i := 15) (v := (.bool false)) rfl (by kernel_rfl) (by kernel_rfl) (by kernel_rfl) (fun _ _ _ h => h) (Or.inl ⟨by rfl, ?_⟩) (by assumption) ?_
  · intro V hV
    obtain ⟨u5, u6, u8, x0, x1, x2, x3, x4, x5, x6, x7, x8⟩ := RD.out V hV
    simp only [List.getElem_toArray, List.getElem_cons_zero, List.getElem_cons_succ]
    go_simp
  simp only [List.getElem_toArray, List.getElem_cons_zero, List.getElem_cons_succ, Act.put, List.setIfInBounds_toArray, List.set_cons_zero, List.set_cons_succ]
  refine wpAnyH_take (i := 16) (v := (.pointer (some ⟨w.heap.size + 1, 5, none⟩))) rfl (by kernel_rfl) (by kernel_rfl) (by kernel_rfl) (fun _ _ _ h => h) (Or.inl ⟨by rfl, ?_⟩) (by assumption) ?_
  · intro V hV
    obtain ⟨u5, u6, u8, x0, x1, x2, x3, x4, x5, x6, x7, x8⟩ := RD.out V hV
    simp only [List.getElem_toArray, List.getElem_cons_zero, List.getElem_cons_succ]
    go_simp
  simp only [List.getElem_toArray, List.getElem_cons_zero, List.getElem_cons_succ, Act.put, List.setIfInBounds_toArray, List.set_cons_zero, List.set_cons_succ]
  refine wpAnyH_take (i := 17) (v := (.int .i64 0)) rfl (by kernel_rfl) (by kernel_rfl) (by kernel_rfl) (fun _ _ _ h => h) (Or.inl ⟨by rfl, ?_⟩) (by assumption) ?_
  · intro V hV
    obtain ⟨u5, u6, u8, x0, x1, x2, x3, x4, x5, x6, x7, x8⟩ := RD.out V hV
    simp only [List.getElem_toArray, List.getElem_cons_zero, List.getElem_cons_succ]
    go_simp
  simp only [List.getElem_toArray, List.getElem_cons_zero, List.getElem_cons_succ, Act.put, List.setIfInBounds_toArray, List.set_cons_zero, List.set_cons_succ]
  refine wpAnyH_take (i := 18) (v := (.bool false)) rfl (by kernel_rfl) (by kernel_rfl) (by kernel_rfl) (fun _ _ _ h => h) (Or.inl ⟨by rfl, ?_⟩) (by assumption) ?_
  · intro V hV
    obtain ⟨u5, u6, u8, x0, x1, x2, x3, x4, x5, x6, x7, x8⟩ := RD.out V hV
    simp only [List.getElem_toArray, List.getElem_cons_zero, List.getElem_cons_succ]
    go_simp
  simp only [List.getElem_toArray, List.getElem_cons_zero, List.getElem_cons_succ, Act.put, List.setIfInBounds_toArray, List.set_cons_zero, List.set_cons_succ]
  refine wpAnyH_take (i := 19) (v := (.bool false)) rfl (by kernel_rfl) (by kernel_rfl) (by kernel_rfl) (fun _ _ _ h => h) (Or.inl ⟨by rfl, ?_⟩) (by assumption) ?_
  · intro V hV
    obtain ⟨u5, u6, u8, x0, x1, x2, x3, x4, x5, x6, x7, x8⟩ := RD.out V hV
    simp only [List.getElem_toArray, List.getElem_cons_zero, List.getElem_cons_succ]
    go_simp
  simp only [List.getElem_toArray, List.getElem_cons_zero, List.getElem_cons_succ, Act.put, List.setIfInBounds_toArray, List.set_cons_zero, List.set_cons_succ]
  refine wpAnyH_take (i := 20) (v := (.bool false)) rfl (by kernel_rfl) (by kernel_rfl) (by kernel_rfl) (fun _ _ _ h => h) (Or.inl ⟨by rfl, ?_⟩) (by assumption) ?_
  · intro V hV
    obtain ⟨u5, u6, u8, x0, x1, x2, x3, x4, x5, x6, x7, x8⟩ := RD.out V hV
    simp only [List.getElem_toArray, List.getElem_cons_zero, List.getElem_cons_succ]
    go_simp
  simp only [List.getElem_toArray, List.getElem_cons_zero, List.getElem_cons_succ, Act.put, List.setIfInBounds_toArray, List.set_cons_zero, List.set_cons_succ]
  refine wpAnyH_take (i := 21) (v := (.pointer (some ⟨w.heap.size + 1, 5, none⟩))) rfl (by kernel_rfl) (by kernel_rfl) (by kernel_rfl) (fun _ _ _ h => h) (Or.inl ⟨by rfl, ?_⟩) (by assumption) ?_
  · intro V hV
    obtain ⟨u5, u6, u8, x0, x1, x2, x3, x4, x5, x6, x7, x8⟩ := RD.out V hV
    simp only [List.getElem_toArray, List.getElem_cons_zero, List.getElem_cons_succ]
    go_simp
  simp only [List.getElem_toArray, List.getElem_cons_zero, List.getElem_cons_succ, Act.put, List.setIfInBounds_toArray, List.set_cons_zero, List.set_cons_succ]
  refine wpAnyH_take (i := 22) (v := (.int .i64 0)) rfl (by kernel_rfl) (by kernel_rfl) (by kernel_rfl) (fun _ _ _ h => h) (Or.inl ⟨by rfl, ?_⟩) (by assumption) ?_
  · intro V hV
    obtain ⟨u5, u6, u8, x0, x1, x2, x3, x4, x5, x6, x7, x8⟩ := RD.out V hV
    simp only [List.getElem_toArray, List.getElem_cons_zero, List.getElem_cons_succ]
    go_simp
  simp only [List.getElem_toArray, List.getElem_cons_zero, List.getElem_cons_succ, Act.put, List.setIfInBounds_toArray, List.set_cons_zero, List.set_cons_succ]
  refine wpAnyH_take (i := 23) (v := (.bool false)) rfl (by kernel_rfl) (by kernel_rfl) (by kernel_rfl) (fun _ _ _ h => h) (Or.inl ⟨by rfl, ?_⟩) (by assumption) ?_
  · intro V hV
    obtain ⟨u5, u6, u8, x0, x1, x2, x3, x4, x5, x6, x7, x8⟩ := RD.out V hV
    simp only [List.getElem_toArray, List.getElem_cons_zero, List.getElem_cons_succ]
    go_simp
  simp only [List.getElem_toArray, List.getElem_cons_zero, List.getElem_cons_succ, Act.put, List.setIfInBounds_toArray, List.set_cons_zero, List.set_cons_succ]
  refine wpAnyH_take (i := 24) (v := (.bool false)) rfl (by kernel_rfl) (by kernel_rfl) (by kernel_rfl) (fun _ _ _ h => h) (Or.inl ⟨by rfl, ?_⟩) (by assumption) ?_
  · intro V hV
    obtain ⟨u5, u6, u8, x0, x1, x2, x3, x4, x5, x6, x7, x8⟩ := RD.out V hV
    simp only [List.getElem_toArray, List.getElem_cons_zero, List.getElem_cons_succ]
    go_simp
  simp only [List.getElem_toArray, List.getElem_cons_zero, List.getElem_cons_succ, Act.put, List.setIfInBounds_toArray, List.set_cons_zero, List.set_cons_succ]
  refine wpAnyH_take (i := 25) (v := (.bool false)) rfl (by kernel_rfl) (by kernel_rfl) (by kernel_rfl) (fun _ _ _ h => h) (Or.inl ⟨by rfl, ?_⟩) (by assumption) ?_
  · intro V hV
    obtain ⟨u5, u6, u8, x0, x1, x2, x3, x4, x5, x6, x7, x8⟩ := RD.out V hV
    simp only [List.getElem_toArray, List.getElem_cons_zero, List.getElem_cons_succ]
    go_simp
  simp only [List.getElem_toArray, List.getElem_cons_zero, List.getElem_cons_succ, Act.put, List.setIfInBounds_toArray, List.set_cons_zero, List.set_cons_succ]
  refine wpAnyH_take (i := 26) (v := (.pointer (some ⟨w.heap.size + 1, 6, none⟩))) rfl (by kernel_rfl) (by kernel_rfl) (by kernel_rfl) (fun _ _ _ h => h) (Or.inl ⟨by rfl, ?_⟩) (by assumption) ?_
  · intro V hV
    obtain ⟨u5, u6, u8, x0, x1, x2, x3, x4, x5, x6, x7, x8⟩ := RD.out V hV
    simp only [List.getElem_toArray, List.getElem_cons_zero, List.getElem_cons_succ]
    go_simp
  simp only [List.getElem_toArray, List.getElem_cons_zero, List.getElem_cons_succ, Act.put, List.setIfInBounds_toArray, List.set_cons_zero, List.set_cons_succ]
  refine wpAnyH_take (i := 27) (v := (.int .i64 (-1))) rfl (by kernel_rfl) (by kernel_rfl) (by kernel_rfl) (fun _ _ _ h => h) (Or.inl ⟨by rfl, ?_⟩) (by assumption) ?_
  · intro V hV
    obtain ⟨u5, u6, u8, x0, x1, x2, x3, x4, x5, x6, x7, x8⟩ := RD.out V hV
    simp only [List.getElem_toArray, List.getElem_cons_zero, List.getElem_cons_succ]
    go_simp
  simp only [List.getElem_toArray, List.getElem_cons_zero, List.getElem_cons_succ, Act.put, List.setIfInBounds_toArray, List.set_cons_zero, List.set_cons_succ]
  refine wpAnyH_take (i := 28) (v := (.bool false)) rfl (by kernel_rfl) (by kernel_rfl) (by kernel_rfl) (fun _ _ _ h => h) (Or.inl ⟨by rfl, ?_⟩) (by assumption) ?_
  · intro V hV
    obtain ⟨u5, u6, u8, x0, x1, x2, x3, x4, x5, x6, x7, x8⟩ := RD.out V hV
    simp only [List.getElem_toArray, List.getElem_cons_zero, List.getElem_cons_succ]
    go_simp
  simp only [List.getElem_toArray, List.getElem_cons_zero, List.getElem_cons_succ, Act.put, List.setIfInBounds_toArray, List.set_cons_zero, List.set_cons_succ]
  refine wpAnyH_take (i := 29) (v := (.bool false)) rfl (by kernel_rfl) (by kernel_rfl) (by kernel_rfl) (fun _ _ _ h => h) (Or.inl ⟨by rfl, ?_⟩) (by assumption) ?_
  · intro V hV
    obtain ⟨u5, u6, u8, x0, x1, x2, x3, x4, x5, x6, x7, x8⟩ := RD.out V hV
    simp only [List.getElem_toArray, List.getElem_cons_zero, List.getElem_cons_succ]
    go_simp
  simp only [List.getElem_toArray, List.getElem_cons_zero, List.getElem_cons_succ, Act.put, List.setIfInBounds_toArray, List.set_cons_zero, List.set_cons_succ]
  refine wpAnyH_take (i := 30) (v := undef) rfl (by kernel_rfl) (by kernel_rfl) (by kernel_rfl) (fun _ _ _ h => h) (Or.inr ⟨by rfl, rfl⟩) (by assumption) ?_
  simp only [List.getElem_toArray, List.getElem_cons_zero, List.getElem_cons_succ, Act.put, List.setIfInBounds_toArray, List.set_cons_zero, List.set_cons_succ]
  refine wpAnyH_take (i := 31) (v := undef) rfl (by kernel_rfl) (by kernel_rfl) (by kernel_rfl) (fun _ _ _ h => h) (Or.inr ⟨by rfl, rfl⟩) (by assumption) ?_
  simp only [List.getElem_toArray, List.getElem_cons_zero, List.getElem_cons_succ, Act.put, List.setIfInBounds_toArray, List.set_cons_zero, List.set_cons_succ]
  refine wpAnyH_take (i := 32) (v := undef) rfl (by kernel_rfl) (by kernel_rfl) (by kernel_rfl) (fun _ _ _ h => h) (Or.inr ⟨by rfl, rfl⟩) (by assumption) ?_
  simp only [List.getElem_toArray, List.getElem_cons_zero, List.getElem_cons_succ, Act.put, List.setIfInBounds_toArray, List.set_cons_zero, List.set_cons_succ]
  refine wpAnyH_take (i := 33) (v := undef) rfl (by kernel_rfl) (by kernel_rfl) (by kernel_rfl) (fun _ _ _ h => h) (Or.inr ⟨by rfl, rfl⟩) (by assumption) ?_
  simp only [List.getElem_toArray, List.getElem_cons_zero, List.getElem_cons_succ, Act.put, List.setIfInBounds_toArray, List.set_cons_zero, List.set_cons_succ]
  refine wpAnyH_take (i := 34) (v := undef) rfl (by kernel_rfl) (by kernel_rfl) (by kernel_rfl) (fun _ _ _ h => h) (Or.inr ⟨by rfl, rfl⟩) (by assumption) ?_
  simp only [List.getElem_toArray, List.getElem_cons_zero, List.getElem_cons_succ, Act.put, List.setIfInBounds_toArray, List.set_cons_zero, List.set_cons_succ]
  refine wpAnyH_take (i := 35) (v := undef) rfl (by kernel_rfl) (by kernel_rfl) (by kernel_rfl) (fun _ _ _ h => h) (Or.inr ⟨by rfl, rfl⟩) (by assumption) ?_
  simp only [List.getElem_toArray, List.getElem_cons_zero, List.getElem_cons_succ, Act.put, List.setIfInBounds_toArray, List.set_cons_zero, List.set_cons_succ]
  refine wpAnyH_take (i := 36) (v := undef) rfl (by kernel_rfl) (by kernel_rfl) (by kernel_rfl) (fun _ _ _ h => h) (Or.inr ⟨by rfl, rfl⟩) (by assumption) ?_
  simp only [List.getElem_toArray, List.getElem_cons_zero, List.getElem_cons_succ, Act.put, List.setIfInBounds_toArray, List.set_cons_zero, List.set_cons_succ]
  refine wpAnyH_take (i := 37) (v := undef) rfl (by kernel_rfl) (by kernel_rfl) (by kernel_rfl) (fun _ _ _ h => h) (Or.inr ⟨by rfl, rfl⟩) (by assumption) ?_
  simp only [List.getElem_toArray, List.getElem_cons_zero, List.getElem_cons_succ, Act.put, List.setIfInBounds_toArray, List.set_cons_zero, List.set_cons_succ]
  refine wpAnyH_take (i := 38) (v := undef) rfl (by kernel_rfl) (by kernel_rfl) (by kernel_rfl) (fun _ _ _ h => h) (Or.inr ⟨by rfl, rfl⟩) (by assumption) ?_
  simp only [List.getElem_toArray, List.getElem_cons_zero, List.getElem_cons_succ, Act.put, List.setIfInBounds_toArray, List.set_cons_zero, List.set_cons_succ]
  refine wpAnyH_take (i := 39) (v := undef) rfl (by kernel_rfl) (by kernel_rfl) (by kernel_rfl) (fun _ _ _ h => h) (Or.inr ⟨by rfl, rfl⟩) (by assumption) ?_
  simp only [List.getElem_toArray, List.getElem_cons_zero, List.getElem_cons_succ, Act.put, List.setIfInBounds_toArray, List.set_cons_zero, List.set_cons_succ]
  refine wpAnyH_take (i := 40) (v := (.bool false)) rfl (by kernel_rfl) (by kernel_rfl) (by kernel_rfl) (fun _ _ _ h => h) (Or.inl ⟨by rfl, ?_⟩) (by assumption) ?_
  · intro V hV
    obtain ⟨u5, u6, u8, x0, x1, x2, x3, x4, x5, x6, x7, x8⟩ := RD.out V hV
    simp only [List.getElem_toArray, List.getElem_cons_zero, List.getElem_cons_succ]
    go_simp
  simp only [List.getElem_toArray, List.getElem_cons_zero, List.getElem_cons_succ, Act.put, List.setIfInBounds_toArray, List.set_cons_zero, List.set_cons_succ]
  refine wpAnyH_take (i := 41) (v := (.bool false)) rfl (by kernel_rfl) (by kernel_rfl) (by kernel_rfl) (fun _ _ _ h => h) (Or.inl ⟨by rfl, ?_⟩) (by assumption) ?_
  · intro V hV
    obtain ⟨u5, u6, u8, x0, x1, x2, x3, x4, x5, x6, x7, x8⟩ := RD.out V hV
    simp only [List.getElem_toArray, List.getElem_cons_zero, List.getElem_cons_succ]
    go_simp
  simp only [List.getElem_toArray, List.getElem_cons_zero, List.getElem_cons_succ, Act.put, List.setIfInBounds_toArray, List.set_cons_zero, List.set_cons_succ]
  refine wpAnyH_done (by kernel_rfl) (NoPanic.normal ?_) _
  have HL5 := Lib.hid (blk_below HL2.out s5 (blk_lt HL2.out))
  have HK5 := Lib.hid (blk_below HK2.out s5 (blk_lt HK2.out))
  obtain ⟨u5, u6, u8, -⟩ := RD.out w5 s5
  have HC := Lib.hid (contains_none B w.heap.size v f w5 HK5.out HL5.out)
  have HB5 := Lib.hid (HB2.out.trans (s5.mono HB2.out.size))
  clear u5 u6
  go_wp2_with fail
  refine HC.out.mono ?_
  rintro e w6 ⟨rfl, hb6⟩
  have HB6 := Lib.hid (HB5.out.trans (hb6.mono HB5.out.size))
  clear hb6
  go_wp2_with fail
  go_ret
  exact ⟨rfl, HB6.out⟩
end Go.Proofs.YtlhppbendpnkeaaGreatDoor
