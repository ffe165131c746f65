/- Texts of one chain, merged by a small program (PB, PC). -/
import Derived.Test.YtlhppbendpnkeaaGreatDoorPA
import Derived.ChangeKeysEq
/- syntax.Print: bare; Contains of kinds. -/
namespace Go.Proofs.YtlhppbendpnkeaaGreatDoor
set_option linter.unusedSimpArgs false
set_option linter.unusedVariables false
open Go.RowKit

/-- The node of a star. -/
def reC (kids : Value) : Array Value := #[.int .u8 5, .int .u64 0, .int .u64 0, .int .u64 0, .int .u64 0, .int .i64 0, .int .i64 (-1), .int .i64 0, kids]
theorem reC_eq (kids : Value) : reC kids = ndC 5 noneF 0 (-1) 0 kids := by unfold reC ndC; simp only [sW_none]; rfl

theorem eq_word (a : Int) (W : World) : (Op.equalIn 9999 22 (.int .u64 a) (.int .u64 a)).run Tryz.prog W = .ok true W := by
  have h := run_equalIn_int (P := Tryz.prog) (w := W) 9998 22 .u64 .u64 a a Tryz.underlying22
  simpa using h
theorem eq_words (a b c d : Int) (W : World) : (Op.equalIn 10000 24 (.agg #[.int .u64 a, .int .u64 b, .int .u64 c, .int .u64 d]) (.agg #[.int .u64 a, .int .u64 b, .int .u64 c, .int .u64 d])).run Tryz.prog W = .ok true W := by
  have hk : (Tryz.prog.info? 22).isSome = true := by kernel_rfl
  have hc : Tryz.prog.cellsOf 22 = 1 := by kernel_rfl
  obtain ⟨i, hi⟩ := Option.isSome_iff_exists.1 hk
  rw [run_equalIn_array W 9999 _ _ Tryz.underlying24 hi]
  simp [Op.eqItems, List.range, List.range.loop, go_sem, hc, eq_word]

set_option maxRecDepth 100000 in
set_option maxHeartbeats 1600000 in
theorem bare_set (f : Nat → Bool) (w : World) : Calls Tryz.prog 47 #[.agg (seC f)] w fun e w' => e = .returned (.bool true) ∧ Below w.heap.size w w' := by
  unfold seC
  go_enter Tryz.func47, Tryz.ntmps47
  go_wp2_with fail
  go_ret
  exact ⟨rfl, bl_alloc _ _⟩

set_option maxRecDepth 100000 in
set_option maxHeartbeats 1600000 in
theorem bare_rep (pp : Option Addr) (pn pc : Nat) (w : World) : Calls Tryz.prog 47 #[.agg (reC (.slice pp pn pc))] w fun e w' => e = .returned (.bool true) ∧ Below w.heap.size w w' := by
  unfold reC
  have hz := fun W => eq_words 0 0 0 0 W
  go_enter Tryz.func47, Tryz.ntmps47
  go_wp2_with fail
  go_ret
  exact ⟨rfl, bl_alloc _ _⟩

set_option maxRecDepth 100000 in
set_option maxHeartbeats 1600000 in
theorem index_kind (b c : Nat) (w : World) (h : w.heap[b]? = some (.cells #[.int .u8 2, .int .u8 6, .int .u8 7] 27 (0, 0))) :
    Calls Tryz.prog 79 #[.slice (some ⟨b, 0, none⟩) 3 c, .int .u8 2] w fun e w' => e = .returned (.int .i64 0) ∧ w = w' := by
  have c0 : w.cell? ⟨b, 0, none⟩ = some (.int .u8 2) := (blk_at h 0 rfl).1
  clear h
  go_enter Tryz.func79, Tryz.ntmps79
  go_wp2_with fail
  refine wp_loop_rounds 1 ?_
  rw [rounds_succ]
  go_wp2_with fail
  go_ret
  exact ⟨rfl, rfl⟩

set_option maxRecDepth 100000 in
set_option maxHeartbeats 1600000 in
theorem contains_kind (b c : Nat) (w : World) (h : w.heap[b]? = some (.cells #[.int .u8 2, .int .u8 6, .int .u8 7] 27 (0, 0))) :
    Calls Tryz.prog 50 #[.slice (some ⟨b, 0, none⟩) 3 c, .int .u8 2] w fun e w' => e = .returned (.bool true) ∧ w = w' := by
  have HI := Lib.hid (index_kind b c w h)
  clear h
  go_enter Tryz.func50, Tryz.ntmps50
  go_wp2_with fail
  refine HI.out.mono ?_
  rintro e w1 ⟨rfl, rfl⟩
  go_wp2_with fail
  go_ret
  exact ⟨rfl, rfl⟩

set_option maxRecDepth 100000 in
set_option maxHeartbeats 1600000 in
/-- The closure that 'is' hands back, at a set. -/
theorem is_set (P b c : Nat) (f : Nat → Bool) (w : World) (hP : w.heap[P]? = some (.cells #[.slice (some ⟨b, 0, none⟩) 3 c] 95 (0, 0))) (h : w.heap[b]? = some (.cells #[.int .u8 2, .int .u8 6, .int .u8 7] 27 (0, 0))) :
    Calls Tryz.prog 49 #[.agg (seC f), .pointer (some ⟨P, 0, none⟩)] w fun e w' => e = .returned (.bool true) ∧ Below w.heap.size w w' := by
  obtain ⟨W1, hW1⟩ : ∃ W, w.alloc (.cells (seC f) 30) = W := ⟨_, rfl⟩
  have hb1 : Below w.heap.size w W1 := by rw [← hW1]; exact bl_alloc _ _
  have c0 : ∀ ob, (w.alloc ob).cell? ⟨P, 0, none⟩ = some (.slice (some ⟨b, 0, none⟩) 3 c) := fun ob => (blk_at (blk_below hP (bl_alloc w ob) (blk_lt hP)) 0 rfl).1
  have HC := Lib.hid (contains_kind b c W1 (blk_below h hb1 (blk_lt h)))
  have HB1 := Lib.hid hb1
  have HW1 := Lib.hid hW1
  unfold seC at HW1 ⊢
  clear hP h hb1 hW1
  go_enter Tryz.func49, Tryz.ntmps49
  go_wp2_with fail
  rw [HW1.out]
  refine HC.out.mono ?_
  rintro e w1 ⟨rfl, rfl⟩
  go_wp2_with fail
  go_ret
  exact ⟨rfl, HB1.out⟩

set_option maxRecDepth 100000 in
set_option maxHeartbeats 1600000 in
/-- 'is' itself. -/
theorem is_any (b c : Nat) (w : World) :
    Calls Tryz.prog 48 #[.slice (some ⟨b, 0, none⟩) 3 c] w fun e w' => e = .returned (.func (.func 49) #[] #[.pointer (some ⟨w.heap.size, 0, none⟩)]) ∧ w' = w.alloc (.cells #[.slice (some ⟨b, 0, none⟩) 3 c] 95) := by
  have hmf : ∀ (fn : Fn) (first cap : Array Value) (w : World), (Instr.makeFunc fn first cap).run Tryz.prog w = .ok (.func fn first cap) w := fun _ _ _ _ => rfl
  go_enter Tryz.func48, Tryz.ntmps48
  go_wp2_with fail
  go_ret
  exact ⟨rfl, rfl⟩
end Go.Proofs.YtlhppbendpnkeaaGreatDoor
/- syntax.Print: right at a set; ContainsFunc over one kid. -/
namespace Go.Proofs.YtlhppbendpnkeaaGreatDoor
set_option linter.unusedSimpArgs false
set_option linter.unusedVariables false
open Go.RowKit

set_option maxRecDepth 100000 in
set_option maxHeartbeats 3200000 in
theorem right_set (v : Option Addr) (f : Nat → Bool) (w : World) : Calls Tryz.prog 35 #[.pointer v, .agg (seC f)] w fun e w' => e = .returned (.bool true) ∧ Below w.heap.size w w' := by
  obtain ⟨W1, hW1⟩ : ∃ W, (w.alloc (.cells #[.pointer v] 80)).alloc (.cells (seC f) 30) = W := ⟨_, rfl⟩
  have HB1 : Hid (Below w.heap.size w W1) := by show Below _ _ _; rw [← hW1]; exact (bl_alloc _ _).trans ((bl_alloc _ _).mono (by simp))
  have HN1 : Hid (W1.heap[w.heap.size + 1]? = some (.cells (seC f) 30 (0, 0))) := by show _ = _; rw [← hW1]; exact heap_alloc2_new _ _ _
  have HBR : Hid (∀ W, Calls Tryz.prog 47 #[.agg (seC f)] W fun e w' => e = .returned (.bool true) ∧ Below W.heap.size W w') := fun W => bare_set f W
  have HW1 := Lib.hid hW1
  unfold seC at HW1 HBR ⊢
  clear hW1
  go_enter Tryz.func35, Tryz.ntmps35
  go_wp2_with fail
  rw [HW1.out]
  refine (HBR.out W1).mono ?_
  rintro e w2 ⟨rfl, hb2⟩
  have hn := blk_below HN1.out hb2 (blk_lt HN1.out)
  have HB2 := Lib.hid (HB1.out.trans (hb2.mono HB1.out.size))
  unfold seC at hn
  have c0 := (blk_at hn 0 rfl).1
  have c8 := (blk_at hn 8 rfl).1
  simp only [List.getElem_toArray, List.getElem_cons_zero, List.getElem_cons_succ] at c0 c8
  clear hn hb2
  go_wp2_with fail
  go_ret
  exact ⟨rfl, HB2.out⟩

set_option maxRecDepth 100000 in
set_option maxHeartbeats 1600000 in
/-- The closure that asks right of a kid. -/
theorem not_right (P : Nat) (v : Option Addr) (f : Nat → Bool) (w : World) (hP : w.heap[P]? = some (.cells #[.pointer v] 80 (0, 0))) :
    Calls Tryz.prog 52 #[.agg (seC f), .pointer (some ⟨P, 0, none⟩)] w fun e w' => e = .returned (.bool false) ∧ Below w.heap.size w w' := by
  obtain ⟨W1, hW1⟩ : ∃ W, w.alloc (.cells (seC f) 30) = W := ⟨_, rfl⟩
  have HB1 : Hid (Below w.heap.size w W1) := by show Below _ _ _; rw [← hW1]; exact bl_alloc _ _
  have c0 : ∀ ob, (w.alloc ob).cell? ⟨P, 0, none⟩ = some (.pointer v) := fun ob => (blk_at (blk_below hP (bl_alloc w ob) (blk_lt hP)) 0 rfl).1
  have HC := Lib.hid (right_set v f W1)
  have HW1 := Lib.hid hW1
  unfold seC at HW1 HC ⊢
  clear hP hW1
  go_enter Tryz.func52, Tryz.ntmps52
  go_wp2_with fail
  rw [HW1.out]
  refine HC.out.mono ?_
  rintro e w1 ⟨rfl, hb1⟩
  have HB2 := Lib.hid (HB1.out.trans (hb1.mono HB1.out.size))
  clear hb1
  go_wp2_with fail
  go_ret
  exact ⟨rfl, HB2.out⟩

set_option maxRecDepth 100000 in
set_option maxHeartbeats 1600000 in
theorem index_none (B P : Nat) (v : Option Addr) (f : Nat → Bool) (w : World) (hB : w.heap[B]? = some (.cells (seC f) 30 (0, 0))) (hP : w.heap[P]? = some (.cells #[.pointer v] 80 (0, 0))) :
    Calls Tryz.prog 80 #[.slice (some ⟨B, 0, none⟩) 1 1, .func (.func 52) #[] #[.pointer (some ⟨P, 0, none⟩)]] w fun e w' => e = .returned (.int .i64 (-1)) ∧ Below w.heap.size w w' := by
  have HC := Lib.hid (not_right P v f w hP)
  unfold seC at hB HC
  have c0 := (blk_at hB 0 rfl).1
  have c1 := (blk_at hB 1 rfl).1
  have c2 := (blk_at hB 2 rfl).1
  have c3 := (blk_at hB 3 rfl).1
  have c4 := (blk_at hB 4 rfl).1
  have c5 := (blk_at hB 5 rfl).1
  have c6 := (blk_at hB 6 rfl).1
  have c7 := (blk_at hB 7 rfl).1
  have c8 := (blk_at hB 8 rfl).1
  simp only [List.getElem_toArray, List.getElem_cons_zero, List.getElem_cons_succ] at c0 c1 c2 c3 c4 c5 c6 c7 c8
  clear hB hP
  go_enter Tryz.func80, Tryz.ntmps80
  go_wp2_with fail
  refine wp_loop_rounds 2 ?_
  rw [rounds_succ]
  go_wp2_with fail
  refine HC.out.mono ?_
  rintro e w1 ⟨rfl, hb1⟩
  have HB1 := Lib.hid hb1
  clear hb1
  go_wp2_with fail
  rw [rounds_succ]
  go_wp2_with fail
  go_ret
  exact ⟨rfl, HB1.out⟩

set_option maxRecDepth 100000 in
set_option maxHeartbeats 1600000 in
theorem contains_none (B P : Nat) (v : Option Addr) (f : Nat → Bool) (w : World) (hB : w.heap[B]? = some (.cells (seC f) 30 (0, 0))) (hP : w.heap[P]? = some (.cells #[.pointer v] 80 (0, 0))) :
    Calls Tryz.prog 51 #[.slice (some ⟨B, 0, none⟩) 1 1, .func (.func 52) #[] #[.pointer (some ⟨P, 0, none⟩)]] w fun e w' => e = .returned (.bool false) ∧ Below w.heap.size w w' := by
  have HC := Lib.hid (index_none B P v f w hB hP)
  clear hB hP
  go_enter Tryz.func51, Tryz.ntmps51
  go_wp2_with fail
  refine HC.out.mono ?_
  rintro e w1 ⟨rfl, hb1⟩
  have HB1 := Lib.hid hb1
  clear hb1
  go_wp2_with fail
  go_ret
  exact ⟨rfl, HB1.out⟩
end Go.Proofs.YtlhppbendpnkeaaGreatDoor
