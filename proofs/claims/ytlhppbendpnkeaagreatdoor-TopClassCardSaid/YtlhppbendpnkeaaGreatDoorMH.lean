/- Texts of one chain, merged by a small program (ZN, ZO). -/
import Derived.Test.YtlhppbendpnkeaaGreatDoorZM
/- syntax: atom at a backslash, at a group. -/
namespace Go.Proofs.YtlhppbendpnkeaaGreatDoor
set_option linter.unusedSimpArgs false
set_option linter.unusedVariables false
open Go.RowKit

set_option maxRecDepth 100000 in
set_option maxHeartbeats 3200000 in
theorem atom_back (R M : Nat) (s : ByteArray) (i j : Nat) (x : Bool) (g : Nat) (m : Value) (o : Nat) (k : Nat) (f : Nat → Bool) (mx : Int) (gr : Nat) (kk : Option (Nat → Bool)) (g2 o2 : Nat) (rest : Bs) (fst : Bool) (w : World) (hp : Pa w R s i x g m o)
    (hM : M < w.heap.size) (hsz : s.size ≤ 65536) (hs : s.data.toList.drop i = 92 :: rest) (hsg : signB x (s.data.toList.drop i) 40 = false)
    (HC : ∀ W, Pa W R s i x g m o → M < W.heap.size → Calls Tryz.prog 75 #[.pointer (some ⟨R, 0, none⟩)] W fun e w' => Pret k f mx gr kk R M s j x g2 m o2 W.heap.size W e w') :
    Calls Tryz.prog 45 #[.pointer (some ⟨R, 0, none⟩), .bool fst] w fun e w' => Pret k f mx gr kk R M s j x g2 m o2 w.heap.size w e w' := by
  obtain ⟨hi, ha, hlen⟩ := get_head hs
  have hR := blk_lt hp
  have SA : Hid (∀ W, Pa W R s i x g m o → Calls Tryz.prog 33 #[.pointer (some ⟨R, 0, none⟩), .int .u8 40] W fun e w' => e = .returned (.bool (signB x (s.data.toList.drop i) 40)) ∧ Below W.heap.size W w') := fun W hW => sign_any R s i x g m o 40 W hW (by omega) hsz
  rw [hsg] at SA
  have q2 : ((s[i]'hi).toNat : Int) = 92 := by rw [ha]; rfl
  have z0 : (0 : Int) ≤ (i : Int) := by omega
  have l0 : (i : Int) < (s.size : Int) := by omega
  have l1 : decide ((i : Int) < (s.size : Int)) = true := decide_eq_true l0
  obtain ⟨W1, hW1⟩ : ∃ W, w.alloc (.cells zeroC 30) = W := ⟨_, rfl⟩
  have HE1 : Hid (Es w R M s i x g m o W1) := by
    have h : Es w R M s i x g m o (w.alloc (.cells zeroC 30)) := Es.start hp
    rw [hW1] at h; exact h
  have HW1 := Lib.hid hW1
  unfold zeroC at HW1
  have C0 : ∀ kb : Bel W1, kb.val.cell? ⟨R, 0, none⟩ = some (.string s) := fun kb => (HE1.out.pa.to kb.below).c0
  have C1 : ∀ kb : Bel W1, kb.val.cell? ⟨R, 1, none⟩ = some (.int .i64 (i : Int)) := fun kb => (HE1.out.pa.to kb.below).c1.1
  have HC' := Lib.hid HC
  have HI := Lib.hid hi
  clear hW1 hp hs hsg hlen ha HC
  go_enter Tryz.func45, Tryz.ntmps45
  go_wp2_with fail
  rw [HW1.out]
  refine region_bel W1 (Below.refl _ _) (by kernel_rfl) (by kernel_rfl) ?_
  repeat (go_big_quiet_step (fail))
  refine wpQuiet_nil ?_
  intro kb
  have HEk := Lib.hid (HE1.out.to kb.below)
  obtain ⟨wk, hwk⟩ : ∃ W, kb.val = W := ⟨_, rfl⟩
  rw [hwk] at HEk ⊢
  clear C0 C1 hwk kb
  go_wp2_with fail
  refine (SA.out wk HEk.out.pa).mono ?_
  rintro e w2 ⟨rfl, hb2⟩
  have HE2 := Lib.hid (HEk.out.to hb2)
  have hl2 := HE2.out.lt
  clear hb2
  go_wp2_with fail
  refine (HC'.out w2 HE2.out.pa (by omega)).mono ?_
  rintro e w3 ⟨v, rfl, hk, hp3, hy3⟩
  have HE3 : Hid (Es w R M s j x g2 m o2 w3) := ⟨(hy3.block _ hl2 (by omega) (by omega)).trans HE2.out.zero, hp3, HE2.out.ey.trans hy3⟩
  have HK := Lib.hid hk
  have hst : (storeCells ⟨w.heap.size, 0, none⟩ (ndC k f 0 mx gr v).toList).run Tryz.prog w3 = .ok () (w3.setRow w.heap.size (ndC k f 0 mx gr v)) := run_node HE3.out.zero rfl (nd_ndC k f 0 mx gr hk.one)
  have hsz9 : (ndC k f 0 mx gr v).size = 9 := rfl
  clear hk hp3 hy3
  go_wp2_with fail
  refine bodyPost_ret (results_cell_row (by rfl) _ _ w.heap.size 30 (ndC k f 0 mx gr v) (0, 0) _ (by rfl) (setRow_heap _ _ _ _ _ _ HE3.out.zero) Tryz.underlying30 (by rfl) info30) rfl ?_
  exact HE3.out.fin hR rfl (HK.out.to (by omega) (fun _ _ _ => rfl))

set_option maxRecDepth 100000 in
set_option maxHeartbeats 3200000 in
theorem atom_group (R M : Nat) (s : ByteArray) (i j : Nat) (x : Bool) (g : Nat) (m : Value) (o : Nat) (k : Nat) (f : Nat → Bool) (mx : Int) (gr : Nat) (kk : Option (Nat → Bool)) (g2 o2 : Nat) (fst : Bool) (w : World) (hp : Pa w R s i x g m o)
    (hM : M < w.heap.size) (hsz : s.size ≤ 65536) (hi : i < s.size) (hsg : signB x (s.data.toList.drop i) 40 = true)
    (HC : ∀ W, Below w.heap.size w W → Pa W R s i x g m o → M < W.heap.size → Calls Tryz.prog 72 #[.pointer (some ⟨R, 0, none⟩)] W fun e w' => Pret k f mx gr kk R M s j x g2 m o2 W.heap.size W e w') :
    Calls Tryz.prog 45 #[.pointer (some ⟨R, 0, none⟩), .bool fst] w fun e w' => Pret k f mx gr kk R M s j x g2 m o2 w.heap.size w e w' := by
  have hR := blk_lt hp
  have SA : Hid (∀ W, Pa W R s i x g m o → Calls Tryz.prog 33 #[.pointer (some ⟨R, 0, none⟩), .int .u8 40] W fun e w' => e = .returned (.bool (signB x (s.data.toList.drop i) 40)) ∧ Below W.heap.size W w') := fun W hW => sign_any R s i x g m o 40 W hW (by omega) hsz
  rw [hsg] at SA
  have z0 : (0 : Int) ≤ (i : Int) := by omega
  have l0 : (i : Int) < (s.size : Int) := by omega
  have l1 : decide ((i : Int) < (s.size : Int)) = true := decide_eq_true l0
  obtain ⟨W1, hW1⟩ : ∃ W, w.alloc (.cells zeroC 30) = W := ⟨_, rfl⟩
  have HE1 : Hid (Es w R M s i x g m o W1) := by
    have h : Es w R M s i x g m o (w.alloc (.cells zeroC 30)) := Es.start hp
    rw [hW1] at h; exact h
  have HB1 : Hid (Below w.heap.size w W1) := by show Below _ _ _; rw [← hW1]; exact bl_alloc _ _
  have HW1 := Lib.hid hW1
  unfold zeroC at HW1
  have C0 : ∀ kb : Bel W1, kb.val.cell? ⟨R, 0, none⟩ = some (.string s) := fun kb => (HE1.out.pa.to kb.below).c0
  have C1 : ∀ kb : Bel W1, kb.val.cell? ⟨R, 1, none⟩ = some (.int .i64 (i : Int)) := fun kb => (HE1.out.pa.to kb.below).c1.1
  have HC' := Lib.hid HC
  have HI := Lib.hid hi
  clear hW1 hp hsg HC
  go_enter Tryz.func45, Tryz.ntmps45
  go_wp2_with fail
  rw [HW1.out]
  refine region_bel W1 (Below.refl _ _) (by kernel_rfl) (by kernel_rfl) ?_
  repeat (go_big_quiet_step (fail))
  refine wpQuiet_nil ?_
  intro kb
  have HEk := Lib.hid (HE1.out.to kb.below)
  have HBk := Lib.hid (HB1.out.trans (kb.below.mono HB1.out.size))
  obtain ⟨wk, hwk⟩ : ∃ W, kb.val = W := ⟨_, rfl⟩
  rw [hwk] at HEk HBk ⊢
  clear C0 C1 hwk kb
  go_wp2_with fail
  refine (SA.out wk HEk.out.pa).mono ?_
  rintro e w2 ⟨rfl, hb2⟩
  have HE2 := Lib.hid (HEk.out.to hb2)
  have HB2 := Lib.hid (HBk.out.trans (hb2.mono HBk.out.size))
  have hl2 := HE2.out.lt
  clear hb2
  go_wp2_with fail
  refine (HC'.out w2 HB2.out HE2.out.pa (by omega)).mono ?_
  rintro e w3 ⟨v, rfl, hk, hp3, hy3⟩
  have HE3 : Hid (Es w R M s j x g2 m o2 w3) := ⟨(hy3.block _ hl2 (by omega) (by omega)).trans HE2.out.zero, hp3, HE2.out.ey.trans hy3⟩
  have HK := Lib.hid hk
  have hst : (storeCells ⟨w.heap.size, 0, none⟩ (ndC k f 0 mx gr v).toList).run Tryz.prog w3 = .ok () (w3.setRow w.heap.size (ndC k f 0 mx gr v)) := run_node HE3.out.zero rfl (nd_ndC k f 0 mx gr hk.one)
  have hsz9 : (ndC k f 0 mx gr v).size = 9 := rfl
  clear hk hp3 hy3
  go_wp2_with fail
  refine bodyPost_ret (results_cell_row (by rfl) _ _ w.heap.size 30 (ndC k f 0 mx gr v) (0, 0) _ (by rfl) (setRow_heap _ _ _ _ _ _ HE3.out.zero) Tryz.underlying30 (by rfl) info30) rfl ?_
  exact HE3.out.fin hR rfl (HK.out.to (by omega) (fun _ _ _ => rfl))
end Go.Proofs.YtlhppbendpnkeaaGreatDoor
/- syntax: group. -/
namespace Go.Proofs.YtlhppbendpnkeaaGreatDoor
set_option linter.unusedSimpArgs false
set_option linter.unusedVariables false
open Go.RowKit

theorem Pa.two {w : World} {R : Nat} {s : ByteArray} {i : Nat} {x : Bool} {g g' : Nat} {m : Value} {o o' : Nat} (h : Pa w R s i x g m o) :
    Pa ((w.setCell ⟨R, 3, none⟩ (.int .i64 (g' : Int))).setCell ⟨R, 5, none⟩ (.int .i64 (o' : Int))) R s i x g' m o' := by
  unfold Pa at *
  simp [World.setCell, Array.getElem?_modify, h, paC]
theorem Pa.opened {w : World} {R : Nat} {s : ByteArray} {i : Nat} {x : Bool} {g : Nat} {m : Value} {o o' : Nat} (h : Pa w R s i x g m o) :
    Pa (w.setCell ⟨R, 5, none⟩ (.int .i64 (o' : Int))) R s i x g m o' := by
  unfold Pa at *
  simp [World.setCell, Array.getElem?_modify, h, paC]
theorem under51 : Tryz.prog.underlying 51 = some (.map 3 4) := by kernel_rfl
theorem run_ended {W : World} {M : Nat} (h : W.heap[M]? = some (.map #[] 0)) :
    (Instr.mapUpdate 51 (.map (some M)) (.int .i64 1) (.bool true)).run Tryz.prog W = .ok () { W with heap := W.heap.setIfInBounds M (.map #[{ key := .int .i64 1, val := .bool true, born := 0 }] 1) } := by
  have hf := MapKept.run_findKey (w := W) (P := Tryz.prog) (k := .int .i64 1) (l := []) (a := none) Tryz.underlying3 rfl
  have hk : MapKept.IsKey (.int .i64) (.int .i64 1) := by simp [MapKept.IsKey]
  unfold Instr.mapUpdate
  simp only [Sem.run_bind, run_underlying under51, Result.andThen, MapKept.run_getObj_map h, MapKept.run_checkKey Tryz.underlying3 hk, hf, MapKept.run_setObj_map _ h]
  rfl

theorem Ey.self {R M : Nat} {a b : World} (h : Ey R R a b) : Ey R M a b := ⟨h.os, h.tape, h.output, h.size, fun k hk hn _ => h.block k hk hn hn⟩
/-- The first group's node. -/
def grC (kids : Value) : Array Value := #[.int .u8 6, .int .u64 0, .int .u64 0, .int .u64 0, .int .u64 0, .int .i64 0, .int .i64 0, .int .i64 1, kids]
/-- A set's node. -/
def seC (f : Nat → Bool) : Array Value := #[.int .u8 2, .int .u64 (sW f 0 : Nat), .int .u64 (sW f 1 : Nat), .int .u64 (sW f 2 : Nat), .int .u64 (sW f 3 : Nat), .int .i64 0, .int .i64 0, .int .i64 0, .slice none 0 0]
theorem seC_eq (f : Nat → Bool) : seC f = ndC 2 f 0 0 0 (.slice none 0 0) := rfl
theorem grC_eq (kids : Value) : grC kids = ndC 6 noneF 0 0 1 kids := by unfold grC ndC; simp only [sW_none]; rfl

set_option maxRecDepth 100000 in
set_option maxHeartbeats 3200000 in
theorem group_any (R M : Nat) (s : ByteArray) (i j : Nat) (x : Bool) (f : Nat → Bool) (w : World) (hp : Pa w R s i x 0 (.map (some M)) 0)
    (hM : w.heap[M]? = some (.map #[] 0)) (hsz : s.size ≤ 65536) (hi : i < s.size) (hj : j ≤ s.size) (hend : signB x (s.data.toList.drop j) 41 = true)
    (HC : ∀ W, Pa W R s (i + sgn x) x 1 (.map (some M)) 1 → Calls Tryz.prog 15 #[.pointer (some ⟨R, 0, none⟩)] W fun e w' => Pret 2 f 0 0 none R R s j x 1 (.map (some M)) 1 W.heap.size W e w') :
    Calls Tryz.prog 72 #[.pointer (some ⟨R, 0, none⟩)] w fun e w' => Pret 6 noneF 0 1 (some f) R M s (j + sgn x) x 1 (.map (some M)) 0 w.heap.size w e w' := by
  have hR := blk_lt hp
  have hMl := blk_lt hM
  have hRM : R ≠ M := fun e => by subst e; rw [hp] at hM; cases hM
  have SA : Hid (∀ W, Pa W R s j x 1 (.map (some M)) 1 → Calls Tryz.prog 33 #[.pointer (some ⟨R, 0, none⟩), .int .u8 41] W fun e w' => e = .returned (.bool (signB x (s.data.toList.drop j) 41)) ∧ Below W.heap.size W w') := fun W hW => sign_any R s j x 1 _ 1 41 W hW hj hsz
  rw [hend] at SA
  obtain ⟨W1, hW1⟩ : ∃ W, w.alloc (.cells zeroC 30) = W := ⟨_, rfl⟩
  have HE1 : Hid (Es w R M s i x 0 (.map (some M)) 0 W1) := by
    have h : Es w R M s i x 0 (.map (some M)) 0 (w.alloc (.cells zeroC 30)) := Es.start hp
    rw [hW1] at h; exact h
  have HM1 : Hid (W1.heap[M]? = some (.map #[] 0)) := by show _ = _; rw [← hW1, Below.heap_alloc _ _ _ hMl]; exact hM
  have HW1 := Lib.hid hW1
  unfold zeroC at HW1
  obtain ⟨c1, -⟩ := HE1.out.pa.c1
  rw [← HW1.out] at c1
  have HC' := Lib.hid HC
  have HI := Lib.hid hi
  have HJ := Lib.hid hj
  have HRM := Lib.hid hRM
  clear hW1 hp hend HC hM hj hRM
  go_enter Tryz.func72, Tryz.ntmps72
  go_wp2_with fail
  rw [HW1.out]
  refine (skip_any R s i x 0 (.map (some M)) 0 W1 HE1.out.pa (by omega)).mono ?_
  rintro e w2 ⟨rfl, hp2, hx2⟩
  have hl1 := HE1.out.lt
  have hRM' := HRM.out
  have HE2 : Hid (Es w R M s (i + sgn x) x 0 (.map (some M)) 0 w2) := ⟨(hx2.block _ hl1 (by omega)).trans HE1.out.zero, hp2, HE1.out.ey.trans (Ey.ofEx hx2)⟩
  have HM2 : Hid (w2.heap[M]? = some (.map #[] 0)) := (hx2.block _ (by omega) (Ne.symm hRM')).trans HM1.out
  have c2 := hp2.c2
  have c3 : w2.cell? ⟨R, 3, none⟩ = some (.int .i64 0) := (blk_at hp2 3 rfl).1
  have c5 : w2.cell? ⟨R, 5, none⟩ = some (.int .i64 0) := (blk_at hp2 5 rfl).1
  have c4 : w2.cell? ⟨R, 4, none⟩ = some (.map (some M)) := (blk_at hp2 4 rfl).1
  have f3 : w2.frozen? ⟨R, 3, none⟩ = false := by simp [World.frozen?, show w2.heap[R]? = _ from hp2]
  have f5 : w2.frozen? ⟨R, 5, none⟩ = false := by simp [World.frozen?, show w2.heap[R]? = _ from hp2]
  have hl2 := HE2.out.lt
  clear hp2 hx2 c1 hl1 hRM'
  obtain ⟨W3, hW3⟩ : ∃ W, ((w2.setCell ⟨R, 3, none⟩ (.int .i64 1)).setCell ⟨R, 5, none⟩ (.int .i64 1)).alloc (.cells (grC (.slice none 0 0)) 30) = W := ⟨_, rfl⟩
  have hRl : R < w2.heap.size := by omega
  have HE3 : Hid (Es w R M s (i + sgn x) x 1 (.map (some M)) 1 W3) := by
    have h1 : Pa ((w2.setCell ⟨R, 3, none⟩ (.int .i64 1)).setCell ⟨R, 5, none⟩ (.int .i64 1)) R s (i + sgn x) x 1 (.map (some M)) 1 := HE2.out.pa.two (g' := 1) (o' := 1)
    rw [← hW3]
    refine ⟨?_, h1.to (bl_alloc _ _), ((HE2.out.ey.set).set).trans (Ey.ofBelow (bl_alloc _ _))⟩
    rw [Below.heap_alloc _ _ _ (by simp only [World.size_setCell]; exact hl2), Below.heap_setCell _ _ _ _ (by show w.heap.size ≠ R; omega), Below.heap_setCell _ _ _ _ (by show w.heap.size ≠ R; omega)]
    exact HE2.out.zero
  have HM3 : Hid (W3.heap[M]? = some (.map #[] 0)) := by
    show _ = _
    have := HRM.out
    rw [← hW3, Below.heap_alloc _ _ _ (by simp only [World.size_setCell]; omega), Below.heap_setCell _ _ _ _ (by show M ≠ R; omega), Below.heap_setCell _ _ _ _ (by show M ≠ R; omega)]
    exact HM2.out
  have HN3 : Hid (W3.heap[w2.heap.size]? = some (.cells (grC (.slice none 0 0)) 30 (0, 0))) := by
    show _ = _
    have h := heap_alloc_new ((w2.setCell ⟨R, 3, none⟩ (.int .i64 1)).setCell ⟨R, 5, none⟩ (.int .i64 1)) (.cells (grC (.slice none 0 0)) 30)
    simp only [World.size_setCell] at h
    rw [← hW3]; exact h
  have HW3 := Lib.hid hW3
  unfold grC at HW3
  clear hW3
  go_wp2_with fail
  rw [HW3.out]
  refine (HC'.out W3 HE3.out.pa).mono ?_
  rintro e w4 ⟨v, rfl, hk, hp4, hy4⟩
  obtain rfl : v = .slice none 0 0 := hk
  have hl3 := HE3.out.lt
  have hn3 : w2.heap.size < W3.heap.size := blk_lt HN3.out
  have HE4 : Hid (Es w R M s j x 1 (.map (some M)) 1 w4) := ⟨(hy4.block _ hl3 (by omega) (by omega)).trans HE3.out.zero, hp4, HE3.out.ey.trans hy4.self⟩
  have HM4 : Hid (w4.heap[M]? = some (.map #[] 0)) := (hy4.block _ (by omega) (Ne.symm HRM.out) (Ne.symm HRM.out)).trans HM3.out
  have HN4 : Hid (w4.heap[w2.heap.size]? = some (.cells (grC (.slice none 0 0)) 30 (0, 0))) := (hy4.block _ hn3 (by omega) (by omega)).trans HN3.out
  have hn4 : w2.heap.size < w4.heap.size := blk_lt HN4.out
  have hya : ∀ ob, (w4.alloc ob).heap[w2.heap.size]? = some (.cells (grC (.slice none 0 0)) 30 (0, 0)) := fun ob => by rw [Below.heap_alloc _ _ _ hn4]; exact HN4.out
  have y8 : ∀ ob, (w4.alloc ob).cell? ⟨w2.heap.size, 8, none⟩ = some (.slice none 0 0) := fun ob => (blk_at (hya ob) 8 rfl).1
  have g8 : ∀ ob, (w4.alloc ob).frozen? ⟨w2.heap.size, 8, none⟩ = false := fun ob => (blk_at (hya ob) 8 (v := .slice none 0 0) rfl).2
  clear hya hp4 hy4 c2 c3 c4 c5 f3 f5
  unfold ndC
  go_wp2_with fail
  obtain ⟨W5, hW5⟩ : ∃ W, (w4.setCell ⟨w2.heap.size, 8, none⟩ (.slice (some ⟨w4.heap.size, 0, none⟩) 1 1)).alloc (.cells (seC f) 30) = W := ⟨_, rfl⟩
  have hset : (w4.setCell ⟨w2.heap.size, 8, none⟩ (.slice (some ⟨w4.heap.size, 0, none⟩) 1 1)).heap[w2.heap.size]? = some (.cells (grC (.slice (some ⟨w4.heap.size, 0, none⟩) 1 1)) 30 (0, 0)) := by
    rw [setCell_eq_setRow _ _ 8 _ _ _ _ HN4.out]; exact setRow_heap _ _ _ _ _ _ HN4.out
  have HE5 : Hid (Es w R M s j x 1 (.map (some M)) 1 W5) := by
    rw [← hW5]
    refine Es.to ⟨?_, ?_, ?_⟩ (bl_alloc _ _)
    · rw [Below.heap_setCell _ _ _ _ (by show w.heap.size ≠ w2.heap.size; omega)]; exact HE4.out.zero
    · show _ = _
      rw [Below.heap_setCell _ _ _ _ (by show R ≠ w2.heap.size; omega)]; exact HE4.out.pa
    · rw [setCell_eq_setRow _ _ 8 _ _ _ _ HN4.out]; exact HE4.out.ey.row (by omega) _
  have HM5 : Hid (W5.heap[M]? = some (.map #[] 0)) := by
    show _ = _
    rw [← hW5, Below.heap_alloc _ _ _ (by simp only [World.size_setCell]; omega), Below.heap_setCell _ _ _ _ (by show M ≠ w2.heap.size; omega)]; exact HM4.out
  have HN5 : Hid (W5.heap[w2.heap.size]? = some (.cells (grC (.slice (some ⟨w4.heap.size, 0, none⟩) 1 1)) 30 (0, 0))) := by
    show _ = _
    rw [← hW5, Below.heap_alloc _ _ _ (by simp only [World.size_setCell]; omega)]; exact hset
  have HK5 : Hid (W5.heap[w4.heap.size]? = some (.cells (seC f) 30 (0, 0))) := by
    show _ = _
    have h := heap_alloc_new (w4.setCell ⟨w2.heap.size, 8, none⟩ (.slice (some ⟨w4.heap.size, 0, none⟩) 1 1)) (.cells (seC f) 30)
    rw [World.size_setCell] at h
    rw [← hW5]; exact h
  have HW5 := Lib.hid hW5
  unfold seC at HW5
  clear hW5 hset y8 g8
  rw [HW5.out]
  refine (SA.out W5 HE5.out.pa).mono ?_
  rintro e w6 ⟨rfl, hb6⟩
  have HE6 := Lib.hid (HE5.out.to hb6)
  have HM6 := Lib.hid (blk_below HM5.out hb6 (blk_lt HM5.out))
  have HN6 := Lib.hid (blk_below HN5.out hb6 (blk_lt HN5.out))
  have HK6 := Lib.hid (blk_below HK5.out hb6 (blk_lt HK5.out))
  have hj6 := HJ.out
  clear hb6
  go_wp2_with fail
  refine (skip_any R s j x 1 (.map (some M)) 1 w6 HE6.out.pa (by omega)).mono ?_
  rintro e w7 ⟨rfl, hp7, hx7⟩
  have hl6 := HE6.out.lt
  have hln6 := blk_lt HN6.out
  have hlk6 := blk_lt HK6.out
  have hlm6 := blk_lt HM6.out
  have HE7 : Hid (Es w R M s (j + sgn x) x 1 (.map (some M)) 1 w7) := ⟨(hx7.block _ hl6 (by omega)).trans HE6.out.zero, hp7, HE6.out.ey.trans (Ey.ofEx hx7)⟩
  have HM7 : Hid (w7.heap[M]? = some (.map #[] 0)) := (hx7.block _ hlm6 (Ne.symm HRM.out)).trans HM6.out
  have HN7 := Lib.hid ((hx7.block _ hln6 (by omega)).trans HN6.out)
  have HK7 := Lib.hid ((hx7.block _ hlk6 (by omega)).trans HK6.out)
  have c5 : w7.cell? ⟨R, 5, none⟩ = some (.int .i64 1) := (blk_at hp7 5 rfl).1
  have f5 : w7.frozen? ⟨R, 5, none⟩ = false := by simp [World.frozen?, show w7.heap[R]? = _ from hp7]
  obtain ⟨W8, hW8⟩ : ∃ W, w7.setCell ⟨R, 5, none⟩ (.int .i64 0) = W := ⟨_, rfl⟩
  have HE8 : Hid (Es w R M s (j + sgn x) x 1 (.map (some M)) 0 W8) := by
    have h1 : Pa (w7.setCell ⟨R, 5, none⟩ (.int .i64 0)) R s (j + sgn x) x 1 (.map (some M)) 0 := HE7.out.pa.opened (o' := 0)
    rw [← hW8]
    exact ⟨by rw [Below.heap_setCell _ _ _ _ (by show w.heap.size ≠ R; omega)]; exact HE7.out.zero, h1, HE7.out.ey.set⟩
  have HM8 : Hid (W8.heap[M]? = some (.map #[] 0)) := by
    have := HRM.out
    show _ = _
    rw [← hW8, Below.heap_setCell _ _ _ _ (by show M ≠ R; omega)]; exact HM7.out
  have HN8 : Hid (W8.heap[w2.heap.size]? = some (.cells (grC (.slice (some ⟨w4.heap.size, 0, none⟩) 1 1)) 30 (0, 0))) := by
    show _ = _
    rw [← hW8, Below.heap_setCell _ _ _ _ (by show w2.heap.size ≠ R; omega)]; exact HN7.out
  have HK8 : Hid (W8.heap[w4.heap.size]? = some (.cells (seC f) 30 (0, 0))) := by
    show _ = _
    rw [← hW8, Below.heap_setCell _ _ _ _ (by show w4.heap.size ≠ R; omega)]; exact HK7.out
  have HW8 := Lib.hid hW8
  have d4 : W8.cell? ⟨R, 4, none⟩ = some (.map (some M)) := (blk_at HE8.out.pa 4 rfl).1
  have d7 : W8.cell? ⟨w2.heap.size, 7, none⟩ = some (.int .i64 1) := (blk_at HN8.out 7 rfl).1
  obtain ⟨W9, hW9⟩ : ∃ W, ({ W8.drew with heap := W8.heap.setIfInBounds M (.map #[{ key := .int .i64 1, val := .bool true, born := 0 }] 1) } : World) = W := ⟨_, rfl⟩
  have hmu : (Instr.mapUpdate 51 (.map (some M)) (.int .i64 1) (.bool true)).run Tryz.prog W8.drew = .ok () W9 := by
    rw [← hW9]; exact run_ended (W := W8.drew) HM8.out
  have HW9 := Lib.hid hW9
  clear hp7 hx7 hW8 hW9
  go_wp2_with fail
  rw [HW8.out]
  go_region
  have hl8 := HE8.out.lt
  have hRM := HRM.out
  have hln8 := blk_lt HN8.out
  have hlk8 := blk_lt HK8.out
  have hsame : ∀ k, k ≠ M → W9.heap[k]? = W8.heap[k]? := fun k hk => by
    rw [← HW9.out]; exact (MapKept.heap_set (o' := .map #[{ key := .int .i64 1, val := .bool true, born := 0 }] 1) HM8.out).2 k hk
  have HE9 : Hid (Es w R M s (j + sgn x) x 1 (.map (some M)) 0 W9) := by
    refine ⟨(hsame _ (by omega)).trans HE8.out.zero, (hsame _ hRM).trans HE8.out.pa, HE8.out.ey.trans ⟨?_, ?_, ?_, ?_, fun k _ _ hk => hsame k hk⟩⟩
    all_goals rw [← HW9.out]
    · rfl
    · rfl
    · rfl
    · simp
  have HN9 : Hid (W9.heap[w2.heap.size]? = some (.cells (ndC 6 noneF 0 0 1 (.slice (some ⟨w4.heap.size, 0, none⟩) 1 1)) 30 (0, 0))) := by
    show _ = _
    rw [← grC_eq]; exact (hsame _ (by omega)).trans HN8.out
  have HK9 : Hid (Kid (w.heap.size + 1) W9 (.slice (some ⟨w4.heap.size, 0, none⟩) 1 1) (some f)) := ⟨w4.heap.size, rfl, by omega, by rw [← seC_eq]; exact (hsame _ (by omega)).trans HK8.out⟩
  have hst : (storeCells ⟨w.heap.size, 0, none⟩ (ndC 6 noneF 0 0 1 (.slice (some ⟨w4.heap.size, 0, none⟩) 1 1)).toList).run Tryz.prog W9 = .ok () (W9.setRow w.heap.size (ndC 6 noneF 0 0 1 (.slice (some ⟨w4.heap.size, 0, none⟩) 1 1))) := run_node HE9.out.zero rfl (nd_ndC 6 _ 0 0 1 rfl)
  have hsz9 : (ndC 6 noneF 0 0 1 (.slice (some ⟨w4.heap.size, 0, none⟩) 1 1)).size = 9 := rfl
  clear hsame hmu d4 d7
  go_wp2_with (refine wpList_load_row (by rfl) 30 (.tmp 4) (by rfl) w2.heap.size (by rfl) 30 _ (0, 0) _ HN9.out Tryz.underlying30 (by rfl) info30 ?_)
  refine bodyPost_ret (results_cell_row (by rfl) _ _ w.heap.size 30 (ndC 6 noneF 0 0 1 (.slice (some ⟨w4.heap.size, 0, none⟩) 1 1)) (0, 0) _ (by rfl) (setRow_heap _ _ _ _ _ _ HE9.out.zero) Tryz.underlying30 (by rfl) info30) rfl ?_
  exact HE9.out.fin hR rfl HK9.out
end Go.Proofs.YtlhppbendpnkeaaGreatDoor
