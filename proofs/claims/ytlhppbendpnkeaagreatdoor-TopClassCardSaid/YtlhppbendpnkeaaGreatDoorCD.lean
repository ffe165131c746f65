/- The map of the classes: the walk. -/
import Derived.Test.YtlhppbendpnkeaaGreatDoorCC
namespace Go.Proofs.YtlhppbendpnkeaaGreatDoor
set_option linter.unusedSimpArgs false
set_option linter.unusedVariables false
open Go.RowKit

def upF : Nat → Bool := rangeF 65 91
def loF : Nat → Bool := rangeF 97 123
def diF : Nat → Bool := rangeF 48 58
def apF : Nat → Bool := fun c => upF c || loF c
def alF : Nat → Bool := fun c => apF c || diF c
def grF : Nat → Bool := rangeF 33 127
theorem three_sets (W : World) (f g h : Nat → Bool) {W1 : World} (hW : ((W.alloc (.cells (setC noneF) 24)).alloc (.cells (setC noneF) 24)).alloc (.cells (setC noneF) 24) = W1) :
    ∃ W2, Below W.heap.size W W2 ∧ W2.heap.size = W.heap.size + 3 ∧ W2.heap[W.heap.size]? = some (.cells (setC f) 24 (0, 0)) ∧ W2.heap[W.heap.size + 1]? = some (.cells (setC g) 24 (0, 0)) ∧ W2.heap[W.heap.size + 2]? = some (.cells (setC h) 24 (0, 0)) ∧
    ∃ A B, (storeCells ⟨W.heap.size, 0, none⟩ (setC f).toList).run Tryz.prog W1 = .ok () A ∧ (storeCells ⟨W.heap.size + 1, 0, none⟩ (setC g).toList).run Tryz.prog A = .ok () B ∧ (storeCells ⟨W.heap.size + 2, 0, none⟩ (setC h).toList).run Tryz.prog B = .ok () W2 := by
  subst hW
  obtain ⟨X, hX⟩ : ∃ X, ((W.alloc (.cells (setC noneF) 24)).alloc (.cells (setC noneF) 24)).alloc (.cells (setC noneF) 24) = X := ⟨_, rfl⟩
  have h0 : X.heap[W.heap.size]? = some (.cells (setC noneF) 24 (0, 0)) := by
    rw [← hX, Below.heap_alloc _ _ _ (by simp; omega), Below.heap_alloc _ _ _ (by simp)]; exact heap_alloc_new _ _
  have h1 : X.heap[W.heap.size + 1]? = some (.cells (setC noneF) 24 (0, 0)) := by
    rw [← hX, Below.heap_alloc _ _ _ (by simp)]; exact heap_alloc2_new _ _ _
  have h2 : X.heap[W.heap.size + 2]? = some (.cells (setC noneF) 24 (0, 0)) := by
    rw [← hX]
    have := heap_alloc_new ((W.alloc (.cells (setC noneF) 24)).alloc (.cells (setC noneF) 24)) (.cells (setC noneF) 24)
    simpa using this
  have hb : Below W.heap.size W X := by rw [← hX]; go_grown
  have hs : X.heap.size = W.heap.size + 3 := by rw [← hX]; simp
  rw [hX]
  clear hX
  have k1 : (X.setRow W.heap.size (setC f)).heap[W.heap.size + 1]? = some (.cells (setC noneF) 24 (0, 0)) := by rw [setRow_other _ _ _ _ (by omega)]; exact h1
  have k2 : (X.setRow W.heap.size (setC f)).heap[W.heap.size + 2]? = some (.cells (setC noneF) 24 (0, 0)) := by rw [setRow_other _ _ _ _ (by omega)]; exact h2
  have k3 : ((X.setRow W.heap.size (setC f)).setRow (W.heap.size + 1) (setC g)).heap[W.heap.size + 2]? = some (.cells (setC noneF) 24 (0, 0)) := by rw [setRow_other _ _ _ _ (by omega)]; exact k2
  refine ⟨((X.setRow W.heap.size (setC f)).setRow (W.heap.size + 1) (setC g)).setRow (W.heap.size + 2) (setC h), ?_, by simp only [setRow_size]; exact hs, ?_, ?_, setRow_heap _ _ _ _ _ _ k3, _, _, run_set f h0 rfl, run_set g k1 rfl, run_set h k3 rfl⟩
  · exact below_setRow (below_setRow (below_setRow hb (by omega) _) (by omega) _) (by omega) _
  · rw [setRow_other _ _ _ _ (by omega), setRow_other _ _ _ _ (by omega)]; exact setRow_heap _ _ _ _ _ _ h0
  · rw [setRow_other _ _ _ _ (by omega)]; exact setRow_heap _ _ _ _ _ _ k1

theorem one_set (W : World) (f : Nat → Bool) : ∃ W2, Below W.heap.size W W2 ∧ W2.heap.size = W.heap.size + 1 ∧ W2.heap[W.heap.size]? = some (.cells (setC f) 24 (0, 0)) ∧
    (storeCells ⟨W.heap.size, 0, none⟩ (setC f).toList).run Tryz.prog (W.alloc (.cells #[.int .u64 0, .int .u64 0, .int .u64 0, .int .u64 0] 24)) = .ok () W2 := by
  have h0 := heap_alloc_new W (.cells #[.int .u64 0, .int .u64 0, .int .u64 0, .int .u64 0] 24)
  exact ⟨_, below_setRow (bl_alloc _ _) (Nat.le_refl _) _, by rw [setRow_size]; simp, setRow_heap _ _ _ _ _ _ h0, run_set f h0 rfl⟩

set_option maxRecDepth 100000 in
set_option maxHeartbeats 3200000 in
theorem classes_any (w : World) :
    Calls Tryz.prog 107 #[] w fun e w' => (∃ B es ck, e = .returned (.map (some B)) ∧ w.heap.size ≤ B ∧ w'.heap[B]? = some (.map es ck) ∧ MapOk alF es) ∧ Below w.heap.size w w' := by
  have HR1 : Hid (∀ W, Calls Tryz.prog 92 #[.int .u8 65, .int .u8 90] W fun e w' => e = .returned (.agg (setC upF)) ∧ Below W.heap.size W w') := fun W => Range_any 65 90 (by decide) (by decide) W
  have HR2 : Hid (∀ W, Calls Tryz.prog 92 #[.int .u8 97, .int .u8 122] W fun e w' => e = .returned (.agg (setC loF)) ∧ Below W.heap.size W w') := fun W => Range_any 97 122 (by decide) (by decide) W
  have HR3 : Hid (∀ W, Calls Tryz.prog 92 #[.int .u8 48, .int .u8 57] W fun e w' => e = .returned (.agg (setC diF)) ∧ Below W.heap.size W w') := fun W => Range_any 48 57 (by decide) (by decide) W
  have HR4 : Hid (∀ W, Calls Tryz.prog 92 #[.int .u8 33, .int .u8 126] W fun e w' => e = .returned (.agg (setC grF)) ∧ Below W.heap.size W w') := fun W => Range_any 33 126 (by decide) (by decide) W
  have HO1 : Hid (∀ W, Calls Tryz.prog 93 #[.agg (setC upF), .agg (setC loF)] W fun e w' => e = .returned (.agg (setC apF)) ∧ Below W.heap.size W w') := fun W => Or_any upF loF W
  have HO2 : Hid (∀ W, Calls Tryz.prog 93 #[.agg (setC apF), .agg (setC diF)] W fun e w' => e = .returned (.agg (setC alF)) ∧ Below W.heap.size W w') := fun W => Or_any apF diF W
  go_enter Tryz.func107, Tryz.ntmps107
  go_wp2_with fail
  refine (HR1.out _).mono ?_
  rintro e w1 ⟨rfl, hb1⟩
  have HB1 := Lib.hid hb1
  clear hb1
  go_wp2_with fail
  refine (HR2.out _).mono ?_
  rintro e w2 ⟨rfl, hb2⟩
  have HB2 := Lib.hid (bl_to HB1.out hb2)
  clear hb2
  go_wp2_with fail
  refine (HR3.out _).mono ?_
  rintro e w3 ⟨rfl, hb3⟩
  have HB3 := Lib.hid (bl_to HB2.out hb3)
  obtain ⟨W4, hW4⟩ : ∃ W, ((w3.alloc (.cells (setC noneF) 24)).alloc (.cells (setC noneF) 24)).alloc (.cells (setC noneF) 24) = W := ⟨_, rfl⟩
  obtain ⟨W5, hb5, hs5, k1, k2, k3, A, B, e1, e2, e3⟩ := three_sets w3 upF loF diF hW4
  rw [setC_none] at hW4
  rw [← hW4] at e1
  have z4 : ∀ f, (setC f).size = 4 := fun f => rfl
  clear hb3 hW4
  have HK1 := Lib.hid k1
  have HK2 := Lib.hid k2
  have HK3 := Lib.hid k3
  have HB5 := Lib.hid (bl_to HB3.out hb5)
  have HS5 := Lib.hid hs5
  clear k1 k2 k3 hb5 hs5
  go_wp2_with (first | (refine wpList_load_row (by rfl) 24 (.tmp 1) (by rfl) w3.heap.size (by rfl) 24 _ (0, 0) _ HK1.out Tryz.underlying24 (by rfl) info24 ?_) | (refine wpList_load_row (by rfl) 24 (.tmp 2) (by rfl) (w3.heap.size + 1) (by rfl) 24 _ (0, 0) _ HK2.out Tryz.underlying24 (by rfl) info24 ?_))
  refine (HO1.out W5).mono ?_
  rintro e w6 ⟨rfl, hb6⟩
  have hs5 := HS5.out
  have hs6 := hb6.size
  have K1 : Hid (w6.heap[w3.heap.size]? = some (.cells (setC upF) 24 (0, 0))) := blk_below HK1.out hb6 (blk_lt HK1.out)
  have K2 : Hid (w6.heap[w3.heap.size + 1]? = some (.cells (setC loF) 24 (0, 0))) := blk_below HK2.out hb6 (blk_lt HK2.out)
  have K3 : Hid (w6.heap[w3.heap.size + 2]? = some (.cells (setC diF) 24 (0, 0))) := blk_below HK3.out hb6 (blk_lt HK3.out)
  have HB6 := Lib.hid (bl_to HB5.out hb6)
  generalize hn3 : w3.heap.size = n3 at *
  obtain ⟨W7, hb7, hs7, k4, e4⟩ := one_set w6 apF
  have K1 : Hid (W7.heap[n3]? = some (.cells (setC upF) 24 (0, 0))) := blk_below K1.out hb7 (blk_lt K1.out)
  have K2 : Hid (W7.heap[n3 + 1]? = some (.cells (setC loF) 24 (0, 0))) := blk_below K2.out hb7 (blk_lt K2.out)
  have K3 : Hid (W7.heap[n3 + 1 + 1]? = some (.cells (setC diF) 24 (0, 0))) := blk_below K3.out hb7 (blk_lt K3.out)
  have K4 : Hid (W7.heap[w6.heap.size]? = some (.cells (setC apF) 24 (0, 0))) := k4
  have HB7 := Lib.hid (bl_to HB6.out hb7)
  have HS7 := Lib.hid hs7
  have HN3 := Lib.hid hn3
  have HS5 := Lib.hid hs5
  have HS6 := Lib.hid hs6
  clear hb6 hb7 hs7 k4 hn3 hs5 hs6 e1 e2 e3
  go_wp2_with (first | (refine wpList_load_row (by rfl) 24 (.tmp 4) (by rfl) w6.heap.size (by rfl) 24 _ (0, 0) _ K4.out Tryz.underlying24 (by rfl) info24 ?_) | (refine wpList_load_row (by rfl) 24 (.tmp 3) (by rfl) (n3 + 1 + 1) (by rfl) 24 _ (0, 0) _ K3.out Tryz.underlying24 (by rfl) info24 ?_))
  refine (HO2.out W7).mono ?_
  rintro e w8 ⟨rfl, hb8⟩
  have K1 : Hid (w8.heap[n3]? = some (.cells (setC upF) 24 (0, 0))) := blk_below K1.out hb8 (blk_lt K1.out)
  have K2 : Hid (w8.heap[n3 + 1]? = some (.cells (setC loF) 24 (0, 0))) := blk_below K2.out hb8 (blk_lt K2.out)
  have K3 : Hid (w8.heap[n3 + 1 + 1]? = some (.cells (setC diF) 24 (0, 0))) := blk_below K3.out hb8 (blk_lt K3.out)
  have K4 : Hid (w8.heap[w6.heap.size]? = some (.cells (setC apF) 24 (0, 0))) := blk_below K4.out hb8 (blk_lt K4.out)
  have HB8 := Lib.hid (bl_to HB7.out hb8)
  obtain ⟨W9, hb9, hs9, k5, e5⟩ := one_set w8 alF
  have K1 : Hid (W9.heap[n3]? = some (.cells (setC upF) 24 (0, 0))) := blk_below K1.out hb9 (blk_lt K1.out)
  have K2 : Hid (W9.heap[n3 + 1]? = some (.cells (setC loF) 24 (0, 0))) := blk_below K2.out hb9 (blk_lt K2.out)
  have K3 : Hid (W9.heap[n3 + 1 + 1]? = some (.cells (setC diF) 24 (0, 0))) := blk_below K3.out hb9 (blk_lt K3.out)
  have K4 : Hid (W9.heap[w6.heap.size]? = some (.cells (setC apF) 24 (0, 0))) := blk_below K4.out hb9 (blk_lt K4.out)
  have K5 : Hid (W9.heap[w8.heap.size]? = some (.cells (setC alF) 24 (0, 0))) := k5
  have HB9 := Lib.hid (bl_to HB8.out hb9)
  have HS9 := Lib.hid hs9
  clear hb8 hb9 hs9 k5 e4
  go_wp2_with fail
  refine (HR4.out W9).mono ?_
  rintro e w10 ⟨rfl, hb10⟩
  have K1 : Hid (w10.heap[n3]? = some (.cells (setC upF) 24 (0, 0))) := blk_below K1.out hb10 (blk_lt K1.out)
  have K2 : Hid (w10.heap[n3 + 1]? = some (.cells (setC loF) 24 (0, 0))) := blk_below K2.out hb10 (blk_lt K2.out)
  have K3 : Hid (w10.heap[n3 + 1 + 1]? = some (.cells (setC diF) 24 (0, 0))) := blk_below K3.out hb10 (blk_lt K3.out)
  have K4 : Hid (w10.heap[w6.heap.size]? = some (.cells (setC apF) 24 (0, 0))) := blk_below K4.out hb10 (blk_lt K4.out)
  have K5 : Hid (w10.heap[w8.heap.size]? = some (.cells (setC alF) 24 (0, 0))) := blk_below K5.out hb10 (blk_lt K5.out)
  have HB10 := Lib.hid (bl_to HB9.out hb10)
  obtain ⟨W0, hb0, hs0, k6, e6⟩ := one_set w10 grF
  have K1 : Hid (W0.heap[n3]? = some (.cells (setC upF) 24 (0, 0))) := blk_below K1.out hb0 (blk_lt K1.out)
  have K2 : Hid (W0.heap[n3 + 1]? = some (.cells (setC loF) 24 (0, 0))) := blk_below K2.out hb0 (blk_lt K2.out)
  have K3 : Hid (W0.heap[n3 + 1 + 1]? = some (.cells (setC diF) 24 (0, 0))) := blk_below K3.out hb0 (blk_lt K3.out)
  have K4 : Hid (W0.heap[w6.heap.size]? = some (.cells (setC apF) 24 (0, 0))) := blk_below K4.out hb0 (blk_lt K4.out)
  have K5 : Hid (W0.heap[w8.heap.size]? = some (.cells (setC alF) 24 (0, 0))) := blk_below K5.out hb0 (blk_lt K5.out)
  have K6 : Hid (W0.heap[w10.heap.size]? = some (.cells (setC grF) 24 (0, 0))) := k6
  have HB0 := Lib.hid (bl_to HB10.out hb0)
  clear hb10 hb0 hs0 k6 e5
  go_wp2_with fail
  clear e6
  refine wp_region_any (by kernel_rfl) ?_
  refine wpAny_inv (CI W0 alF (fun k => match k with | 1 => n3 | 2 => n3 + 1 | 3 => n3 + 1 + 1 | 4 => w6.heap.size | 5 => w8.heap.size | _ => w10.heap.size) (fun k => match k with | 1 => upF | 2 => loF | 3 => diF | 4 => apF | 5 => alF | _ => grF)) ?_ ?_ _ _ _ _ (by simp) (by kernel_rfl) ?_
  · intro listed a w' i hs hI hr
    have hi : i < 42 := ready_lt hr
    rcases (show i = 0 ∨ i = 1 ∨ i = 2 ∨ i = 3 ∨ i = 4 ∨ i = 5 ∨ i = 6 ∨ i = 7 ∨ i = 8 ∨ i = 9 ∨ i = 10 ∨ i = 11 ∨ i = 12 ∨ i = 13 ∨ i = 14 ∨ i = 15 ∨ i = 16 ∨ i = 17 ∨ i = 18 ∨ i = 19 ∨ i = 20 ∨ i = 21 ∨ i = 22 ∨ i = 23 ∨ i = 24 ∨ i = 25 ∨ i = 26 ∨ i = 27 ∨ i = 28 ∨ i = 29 ∨ i = 30 ∨ i = 31 ∨ i = 32 ∨ i = 33 ∨ i = 34 ∨ i = 35 ∨ i = 36 ∨ i = 37 ∨ i = 38 ∨ i = 39 ∨ i = 40 ∨ i = 41 by omega) with rfl | rfl | rfl | rfl | rfl | rfl | rfl | rfl | rfl | rfl | rfl | rfl | rfl | rfl | rfl | rfl | rfl | rfl | rfl | rfl | rfl | rfl | rfl | rfl | rfl | rfl | rfl | rfl | rfl | rfl | rfl | rfl | rfl | rfl | rfl | rfl | rfl | rfl | rfl | rfl | rfl | rfl
    · exact wpOp_of rfl rfl (wp_makeMapf 144 rfl (hI.value 17 rfl (by decide) (by decide) (inj_sl 0 17 (by decide)) (bl_alloc _ _) ⟨_, #[], 0, rfl, hI.below.size, heap_alloc_new _ _, fun e he => by simp at he⟩))
    · exact wpOp_of rfl rfl (wp_load_row 24 (.tmp 1) rfl _ (hI.ptr 1 (by decide) (by decide)).1 24 _ (0, 0) _ (hI.blk 1 (by decide) (by decide)) Tryz.underlying24 (by rfl) info24 (hI.value 18 rfl (by decide) (by decide) (inj_sl 1 18 (by decide)) (Below.refl _ _) ⟨_, rfl⟩))
    · obtain ⟨f, hf⟩ : OkV alF W0.heap.size 0 (a.tmps.getD 18 undef) w' := hI.get hr 1 (by decide) (by kernel_rfl)
      exact wpOp_of rfl rfl (hI.insert _ 18 rfl rfl rfl (hI.get hr 0 (by decide) (by kernel_rfl)) f hf (fun e => absurd e (by decide)))
    · exact wpOp_of rfl rfl (wp_load_row 24 (.tmp 2) rfl _ (hI.ptr 2 (by decide) (by decide)).1 24 _ (0, 0) _ (hI.blk 2 (by decide) (by decide)) Tryz.underlying24 (by rfl) info24 (hI.value 19 rfl (by decide) (by decide) (inj_sl 3 19 (by decide)) (Below.refl _ _) ⟨_, rfl⟩))
    · obtain ⟨f, hf⟩ : OkV alF W0.heap.size 0 (a.tmps.getD 19 undef) w' := hI.get hr 3 (by decide) (by kernel_rfl)
      exact wpOp_of rfl rfl (hI.insert _ 19 rfl rfl rfl (hI.get hr 0 (by decide) (by kernel_rfl)) f hf (fun e => absurd e (by decide)))
    · exact wpOp_of rfl rfl (wp_load_row 24 (.tmp 4) rfl _ (hI.ptr 4 (by decide) (by decide)).1 24 _ (0, 0) _ (hI.blk 4 (by decide) (by decide)) Tryz.underlying24 (by rfl) info24 (hI.value 20 rfl (by decide) (by decide) (inj_sl 5 20 (by decide)) (Below.refl _ _) ⟨_, rfl⟩))
    · obtain ⟨f, hf⟩ : OkV alF W0.heap.size 0 (a.tmps.getD 20 undef) w' := hI.get hr 5 (by decide) (by kernel_rfl)
      exact wpOp_of rfl rfl (hI.insert _ 20 rfl rfl rfl (hI.get hr 0 (by decide) (by kernel_rfl)) f hf (fun e => absurd e (by decide)))
    · exact wpOp_of rfl rfl (wp_load_row 24 (.tmp 3) rfl _ (hI.ptr 3 (by decide) (by decide)).1 24 _ (0, 0) _ (hI.blk 3 (by decide) (by decide)) Tryz.underlying24 (by rfl) info24 (hI.value 21 rfl (by decide) (by decide) (inj_sl 7 21 (by decide)) (Below.refl _ _) ⟨_, rfl⟩))
    · obtain ⟨f, hf⟩ : OkV alF W0.heap.size 0 (a.tmps.getD 21 undef) w' := hI.get hr 7 (by decide) (by kernel_rfl)
      exact wpOp_of rfl rfl (hI.insert _ 21 rfl rfl rfl (hI.get hr 0 (by decide) (by kernel_rfl)) f hf (fun e => absurd e (by decide)))
    · exact wpOp_of rfl rfl (wp_load_row 24 (.tmp 5) rfl _ (hI.ptr 5 (by decide) (by decide)).1 24 _ (0, 0) _ (hI.blk 5 (by decide) (by decide)) Tryz.underlying24 (by rfl) info24 (hI.value 22 rfl (by decide) (by decide) (inj_sl 9 22 (by decide)) (Below.refl _ _) rfl))
    · have hf : a.tmps.getD 22 undef = .agg (setC alF) := hI.get hr 9 (by decide) (by kernel_rfl)
      exact wpOp_of rfl rfl (hI.insert _ 22 rfl rfl rfl (hI.get hr 0 (by decide) (by kernel_rfl)) alF hf (fun _ => rfl))
    · exact wpOp_of rfl rfl (wp_load_row 24 (.tmp 3) rfl _ (hI.ptr 3 (by decide) (by decide)).1 24 _ (0, 0) _ (hI.blk 3 (by decide) (by decide)) Tryz.underlying24 (by rfl) info24 (hI.value 23 rfl (by decide) (by decide) (inj_sl 11 23 (by decide)) (Below.refl _ _) ⟨_, rfl⟩))
    · exact wpOp_of rfl rfl (wp_callf 92 _ _ #[.int .u8 65, .int .u8 70] (by simp only [List.map_toArray, List.map_cons, List.map_nil, Act.eval]) rfl cf92 ((Range_any 65 70 (by decide) (by decide) w').mono fun e w'' h => ⟨_, h.1, hI.value 24 rfl (by decide) (by decide) (inj_sl 12 24 (by decide)) h.2 ⟨_, rfl⟩⟩))
    · exact wpOp_of rfl rfl (wp_callf 92 _ _ #[.int .u8 97, .int .u8 102] (by simp only [List.map_toArray, List.map_cons, List.map_nil, Act.eval]) rfl cf92 ((Range_any 97 102 (by decide) (by decide) w').mono fun e w'' h => ⟨_, h.1, hI.value 25 rfl (by decide) (by decide) (inj_sl 13 25 (by decide)) h.2 ⟨_, rfl⟩⟩))
    · obtain ⟨f, hf⟩ : OkV alF W0.heap.size 0 (a.tmps.getD 24 undef) w' := hI.get hr 12 (by decide) (by kernel_rfl)
      obtain ⟨g, hg⟩ : OkV alF W0.heap.size 0 (a.tmps.getD 25 undef) w' := hI.get hr 13 (by decide) (by kernel_rfl)
      exact wpOp_of rfl rfl (wp_callf 93 _ _ #[setV f, setV g] (by simp only [List.map_toArray, List.map_cons, List.map_nil, Act.eval, hf, hg]; rfl) rfl cf93 ((Or_any f g w').mono fun e w'' h => ⟨_, h.1, hI.value 26 rfl (by decide) (by decide) (inj_sl 14 26 (by decide)) h.2 ⟨_, rfl⟩⟩))
    · obtain ⟨f, hf⟩ : OkV alF W0.heap.size 0 (a.tmps.getD 23 undef) w' := hI.get hr 11 (by decide) (by kernel_rfl)
      obtain ⟨g, hg⟩ : OkV alF W0.heap.size 0 (a.tmps.getD 26 undef) w' := hI.get hr 14 (by decide) (by kernel_rfl)
      exact wpOp_of rfl rfl (wp_callf 93 _ _ #[setV f, setV g] (by simp only [List.map_toArray, List.map_cons, List.map_nil, Act.eval, hf, hg]; rfl) rfl cf93 ((Or_any f g w').mono fun e w'' h => ⟨_, h.1, hI.value 27 rfl (by decide) (by decide) (inj_sl 15 27 (by decide)) h.2 ⟨_, rfl⟩⟩))
    · obtain ⟨f, hf⟩ : OkV alF W0.heap.size 0 (a.tmps.getD 27 undef) w' := hI.get hr 15 (by decide) (by kernel_rfl)
      exact wpOp_of rfl rfl (hI.insert _ 27 rfl rfl rfl (hI.get hr 0 (by decide) (by kernel_rfl)) f hf (fun e => absurd e (by decide)))
    · exact wpOp_of rfl rfl (wp_buildSlicef 44 2 _ rfl (by simp only [List.map_toArray, List.map_cons, List.map_nil, Act.eval]; exact bs_two 32 9 _) (hI.value 28 rfl (by decide) (by decide) (inj_sl 17 28 (by decide)) (bl_alloc _ _) ⟨_, [32, 9], (0, 0), rfl, by decide, hI.below.size, heap_alloc_new _ _⟩))
    · exact wpOp_of rfl rfl (hI.conv 28 29 rfl rfl rfl (by decide) (by decide) (inj_sl 18 29 (by decide)) rfl (hI.get hr 17 (by decide) (by kernel_rfl)))
    · have hf : OkV alF W0.heap.size 2 (a.tmps.getD 29 undef) w' := hI.get hr 18 (by decide) (by kernel_rfl)
      exact wpOp_of rfl rfl (wp_callf 77 _ _ #[a.tmps.getD 29 undef] (by simp only [List.map_toArray, List.map_cons, List.map_nil, Act.eval]) rfl cf77 ((of_row hf).mono fun e w'' h => h.1.elim fun f h1 => ⟨_, h1, hI.value 30 rfl (by decide) (by decide) (inj_sl 19 30 (by decide)) h.2 ⟨_, rfl⟩⟩))
    · obtain ⟨f, hf⟩ : OkV alF W0.heap.size 0 (a.tmps.getD 30 undef) w' := hI.get hr 19 (by decide) (by kernel_rfl)
      exact wpOp_of rfl rfl (hI.insert _ 30 rfl rfl rfl (hI.get hr 0 (by decide) (by kernel_rfl)) f hf (fun e => absurd e (by decide)))
    · exact wpOp_of rfl rfl (wp_callf 92 _ _ #[.int .u8 9, .int .u8 13] (by simp only [List.map_toArray, List.map_cons, List.map_nil, Act.eval]) rfl cf92 ((Range_any 9 13 (by decide) (by decide) w').mono fun e w'' h => ⟨_, h.1, hI.value 31 rfl (by decide) (by decide) (inj_sl 21 31 (by decide)) h.2 ⟨_, rfl⟩⟩))
    · exact wpOp_of rfl rfl (wp_buildSlicef 44 1 _ rfl (by simp only [List.map_toArray, List.map_cons, List.map_nil, Act.eval]; exact bs_one 32 _) (hI.value 32 rfl (by decide) (by decide) (inj_sl 22 32 (by decide)) (bl_alloc _ _) ⟨_, [32], (0, 0), rfl, by decide, hI.below.size, heap_alloc_new _ _⟩))
    · have hf : OkV alF W0.heap.size 2 (a.tmps.getD 32 undef) w' := hI.get hr 22 (by decide) (by kernel_rfl)
      exact wpOp_of rfl rfl (wp_callf 77 _ _ #[a.tmps.getD 32 undef] (by simp only [List.map_toArray, List.map_cons, List.map_nil, Act.eval]) rfl cf77 ((of_row hf).mono fun e w'' h => h.1.elim fun f h1 => ⟨_, h1, hI.value 33 rfl (by decide) (by decide) (inj_sl 23 33 (by decide)) h.2 ⟨_, rfl⟩⟩))
    · obtain ⟨f, hf⟩ : OkV alF W0.heap.size 0 (a.tmps.getD 31 undef) w' := hI.get hr 21 (by decide) (by kernel_rfl)
      obtain ⟨g, hg⟩ : OkV alF W0.heap.size 0 (a.tmps.getD 33 undef) w' := hI.get hr 23 (by decide) (by kernel_rfl)
      exact wpOp_of rfl rfl (wp_callf 93 _ _ #[setV f, setV g] (by simp only [List.map_toArray, List.map_cons, List.map_nil, Act.eval, hf, hg]; rfl) rfl cf93 ((Or_any f g w').mono fun e w'' h => ⟨_, h.1, hI.value 34 rfl (by decide) (by decide) (inj_sl 24 34 (by decide)) h.2 ⟨_, rfl⟩⟩))
    · obtain ⟨f, hf⟩ : OkV alF W0.heap.size 0 (a.tmps.getD 34 undef) w' := hI.get hr 24 (by decide) (by kernel_rfl)
      exact wpOp_of rfl rfl (hI.insert _ 34 rfl rfl rfl (hI.get hr 0 (by decide) (by kernel_rfl)) f hf (fun e => absurd e (by decide)))
    · exact wpOp_of rfl rfl (wp_callf 92 _ _ #[.int .u8 0, .int .u8 31] (by simp only [List.map_toArray, List.map_cons, List.map_nil, Act.eval]) rfl cf92 ((Range_any 0 31 (by decide) (by decide) w').mono fun e w'' h => ⟨_, h.1, hI.value 35 rfl (by decide) (by decide) (inj_sl 26 35 (by decide)) h.2 ⟨_, rfl⟩⟩))
    · exact wpOp_of rfl rfl (wp_buildSlicef 44 1 _ rfl (by simp only [List.map_toArray, List.map_cons, List.map_nil, Act.eval]; exact bs_one 127 _) (hI.value 36 rfl (by decide) (by decide) (inj_sl 27 36 (by decide)) (bl_alloc _ _) ⟨_, [127], (0, 0), rfl, by decide, hI.below.size, heap_alloc_new _ _⟩))
    · have hf : OkV alF W0.heap.size 2 (a.tmps.getD 36 undef) w' := hI.get hr 27 (by decide) (by kernel_rfl)
      exact wpOp_of rfl rfl (wp_callf 77 _ _ #[a.tmps.getD 36 undef] (by simp only [List.map_toArray, List.map_cons, List.map_nil, Act.eval]) rfl cf77 ((of_row hf).mono fun e w'' h => h.1.elim fun f h1 => ⟨_, h1, hI.value 37 rfl (by decide) (by decide) (inj_sl 28 37 (by decide)) h.2 ⟨_, rfl⟩⟩))
    · obtain ⟨f, hf⟩ : OkV alF W0.heap.size 0 (a.tmps.getD 35 undef) w' := hI.get hr 26 (by decide) (by kernel_rfl)
      obtain ⟨g, hg⟩ : OkV alF W0.heap.size 0 (a.tmps.getD 37 undef) w' := hI.get hr 28 (by decide) (by kernel_rfl)
      exact wpOp_of rfl rfl (wp_callf 93 _ _ #[setV f, setV g] (by simp only [List.map_toArray, List.map_cons, List.map_nil, Act.eval, hf, hg]; rfl) rfl cf93 ((Or_any f g w').mono fun e w'' h => ⟨_, h.1, hI.value 38 rfl (by decide) (by decide) (inj_sl 29 38 (by decide)) h.2 ⟨_, rfl⟩⟩))
    · obtain ⟨f, hf⟩ : OkV alF W0.heap.size 0 (a.tmps.getD 38 undef) w' := hI.get hr 29 (by decide) (by kernel_rfl)
      exact wpOp_of rfl rfl (hI.insert _ 38 rfl rfl rfl (hI.get hr 0 (by decide) (by kernel_rfl)) f hf (fun e => absurd e (by decide)))
    · exact wpOp_of rfl rfl (wp_callf 92 _ _ #[.int .u8 32, .int .u8 126] (by simp only [List.map_toArray, List.map_cons, List.map_nil, Act.eval]) rfl cf92 ((Range_any 32 126 (by decide) (by decide) w').mono fun e w'' h => ⟨_, h.1, hI.value 39 rfl (by decide) (by decide) (inj_sl 31 39 (by decide)) h.2 ⟨_, rfl⟩⟩))
    · obtain ⟨f, hf⟩ : OkV alF W0.heap.size 0 (a.tmps.getD 39 undef) w' := hI.get hr 31 (by decide) (by kernel_rfl)
      exact wpOp_of rfl rfl (hI.insert _ 39 rfl rfl rfl (hI.get hr 0 (by decide) (by kernel_rfl)) f hf (fun e => absurd e (by decide)))
    · exact wpOp_of rfl rfl (wp_load_row 24 (.tmp 6) rfl _ (hI.ptr 6 (by decide) (by decide)).1 24 _ (0, 0) _ (hI.blk 6 (by decide) (by decide)) Tryz.underlying24 (by rfl) info24 (hI.value 40 rfl (by decide) (by decide) (inj_sl 33 40 (by decide)) (Below.refl _ _) ⟨_, rfl⟩))
    · obtain ⟨f, hf⟩ : OkV alF W0.heap.size 0 (a.tmps.getD 40 undef) w' := hI.get hr 33 (by decide) (by kernel_rfl)
      exact wpOp_of rfl rfl (hI.insert _ 40 rfl rfl rfl (hI.get hr 0 (by decide) (by kernel_rfl)) f hf (fun e => absurd e (by decide)))
    · exact wpOp_of rfl rfl (wp_load_row 24 (.tmp 6) rfl _ (hI.ptr 6 (by decide) (by decide)).1 24 _ (0, 0) _ (hI.blk 6 (by decide) (by decide)) Tryz.underlying24 (by rfl) info24 (hI.value 41 rfl (by decide) (by decide) (inj_sl 35 41 (by decide)) (Below.refl _ _) ⟨_, rfl⟩))
    · exact wpOp_of rfl rfl (wp_load_row 24 (.tmp 5) rfl _ (hI.ptr 5 (by decide) (by decide)).1 24 _ (0, 0) _ (hI.blk 5 (by decide) (by decide)) Tryz.underlying24 (by rfl) info24 (hI.value 42 rfl (by decide) (by decide) (inj_sl 36 42 (by decide)) (Below.refl _ _) ⟨_, rfl⟩))
    · obtain ⟨f, hf⟩ : OkV alF W0.heap.size 0 (a.tmps.getD 42 undef) w' := hI.get hr 36 (by decide) (by kernel_rfl)
      exact wpOp_of rfl rfl (wp_callf 11 _ _ #[setV f] (by simp only [List.map_toArray, List.map_cons, List.map_nil, Act.eval, hf]; rfl) rfl cf11 ((Not_any f w').mono fun e w'' h => ⟨_, h.1, hI.value 43 rfl (by decide) (by decide) (inj_sl 37 43 (by decide)) h.2 ⟨_, rfl⟩⟩))
    · obtain ⟨f, hf⟩ : OkV alF W0.heap.size 0 (a.tmps.getD 41 undef) w' := hI.get hr 35 (by decide) (by kernel_rfl)
      obtain ⟨g, hg⟩ : OkV alF W0.heap.size 0 (a.tmps.getD 43 undef) w' := hI.get hr 37 (by decide) (by kernel_rfl)
      exact wpOp_of rfl rfl (wp_callf 113 _ _ #[setV f, setV g] (by simp only [List.map_toArray, List.map_cons, List.map_nil, Act.eval, hf, hg]; rfl) rfl cf113 ((And_any f g w').mono fun e w'' h => ⟨_, h.1, hI.value 44 rfl (by decide) (by decide) (inj_sl 38 44 (by decide)) h.2 ⟨_, rfl⟩⟩))
    · obtain ⟨f, hf⟩ : OkV alF W0.heap.size 0 (a.tmps.getD 44 undef) w' := hI.get hr 38 (by decide) (by kernel_rfl)
      exact wpOp_of rfl rfl (hI.insert _ 44 rfl rfl rfl (hI.get hr 0 (by decide) (by kernel_rfl)) f hf (fun e => absurd e (by decide)))
    · exact wpOp_of rfl rfl (wp_movef (.tmp 17) (.inl rfl) (hI.value 45 rfl (by decide) (by decide) (inj_sl 40 45 (by decide)) (Below.refl _ _) (hI.get hr 0 (by decide) (by kernel_rfl))))
    · exact wpOp_of rfl rfl (wp_movef (.tmp 45) (.inr rfl) (hI.value 0 rfl (by decide) (by decide) (inj_sl 41 0 (by decide)) (Below.refl _ _) (hI.get hr 40 (by decide) (by kernel_rfl))))
  · intro listed a w' hs hr hI
    have h41 := all_listed (by kernel_rfl) hs hr 41 (by decide)
    obtain ⟨B, es, ck, h1, h2, h3, h4⟩ : OkV alF W0.heap.size 3 (a.tmps.getD 0 undef) w' := hI.v 41 (by decide) h41
    have hdf := hI.defers
    have hbl := hI.below
    obtain ⟨tmps, defers⟩ := a
    simp only at h1 hdf
    subst hdf
    have HF : Hid (Below w.heap.size w w') := HB0.out.trans (hbl.mono HB0.out.size)
    have hlo : w.heap.size ≤ B := Nat.le_trans HB0.out.size h2
    clear hs hr hI hbl h41
    go_wp2_with fail
    have h1' : tmps[0]?.getD undef = .map (some B) := by simpa using h1
    refine bodyPost_ret (v := .map (some B)) (by simp [results, Tryz.results107, go_sem, h1']) rfl ?_
    exact ⟨⟨B, es, ck, rfl, hlo, h3, h4⟩, HF.out⟩
  · refine ⟨rfl, rfl, fun k h1 h2 => ?_, (Below.refl _ _).drew, fun j hj hl => ?_⟩
    · rcases (show k = 1 ∨ k = 2 ∨ k = 3 ∨ k = 4 ∨ k = 5 ∨ k = 6 by omega) with rfl | rfl | rfl | rfl | rfl | rfl
      · exact ⟨rfl, K1.out⟩
      · exact ⟨rfl, K2.out⟩
      · exact ⟨rfl, K3.out⟩
      · exact ⟨rfl, K4.out⟩
      · exact ⟨rfl, K5.out⟩
      · exact ⟨rfl, K6.out⟩
    · exfalso
      revert hl
      simp [hj]
end Go.Proofs.YtlhppbendpnkeaaGreatDoor
