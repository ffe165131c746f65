/- Texts of one chain, merged by a small program (W, X). -/
import Derived.Test.YtlhppbendpnkeaaGreatDoorF
/- sets: the reader: named at a dot. -/
namespace Go.Proofs.YtlhppbendpnkeaaGreatDoor
set_option linter.unusedSimpArgs false
set_option linter.unusedVariables false
open Go.RowKit

/-- All blocks but R are as they were. -/
structure Ex (R : Nat) (w w' : World) : Prop where
  os : w'.os = w.os
  tape : w'.tape = w.tape
  output : w'.output = w.output
  size : w.heap.size ≤ w'.heap.size
  block : ∀ k, k < w.heap.size → k ≠ R → w'.heap[k]? = w.heap[k]?
theorem Ex.refl (R : Nat) (w : World) : Ex R w w := ⟨rfl, rfl, rfl, Nat.le_refl _, fun _ _ _ => rfl⟩
theorem Ex.ofBelow {R : Nat} {w w' : World} (h : Below w.heap.size w w') : Ex R w w' := ⟨h.os, h.tape, h.output, h.size, fun k hk _ => h.block k hk⟩
theorem Ex.trans {R : Nat} {a b c : World} (h : Ex R a b) (k : Ex R b c) : Ex R a c :=
  ⟨k.os.trans h.os, k.tape.trans h.tape, k.output.trans h.output, Nat.le_trans h.size k.size, fun i hi hn => (k.block i (Nat.lt_of_lt_of_le hi h.size) hn).trans (h.block i hi hn)⟩
theorem Ex.set {R : Nat} {a b : World} (h : Ex R a b) (o : Nat) (v : Value) : Ex R a (b.setCell ⟨R, o, none⟩ v) :=
  ⟨h.os, h.tape, h.output, by simpa [World.setCell] using h.size, fun i hi hn => (Below.heap_setCell _ _ _ _ hn).trans (h.block i hi hn)⟩
theorem Ex.below {R B : Nat} {a b : World} (h : Ex R a b) (hB : B ≤ R) (hs : B ≤ a.heap.size) : Below B a b :=
  ⟨h.os, h.tape, h.output, h.size, fun k hk => h.block k (by omega) (by omega)⟩
theorem blk_at {w : World} {b : Nat} {cs : Array Value} {t : TypeId} (h : w.heap[b]? = some (.cells cs t (0, 0))) (i : Nat) {v : Value} (hv : cs[i]? = some v) : w.cell? ⟨b, i, none⟩ = some v ∧ w.frozen? ⟨b, i, none⟩ = false :=
  ⟨by simp [World.cell?, h, hv], by simp [World.frozen?, h]⟩
/-- The reader at a place. -/
def rdC (s : ByteArray) (i : Nat) : Array Value := #[.string s, .int .i64 (i : Int), .int .i64 (-1)]
def Re (w : World) (R : Nat) (s : ByteArray) (i : Nat) : Prop := w.heap[R]? = some (.cells (rdC s i) 119 (0, 0))
theorem Re.to {w w' : World} {R : Nat} {s : ByteArray} {i : Nat} (h : Re w R s i) (hb : Below w.heap.size w w') : Re w' R s i := blk_below h hb (blk_lt h)
theorem Re.c0 {w : World} {R : Nat} {s : ByteArray} {i : Nat} (h : Re w R s i) : w.cell? ⟨R, 0, none⟩ = some (.string s) := (blk_at h 0 rfl).1
theorem Re.c1 {w : World} {R : Nat} {s : ByteArray} {i : Nat} (h : Re w R s i) : w.cell? ⟨R, 1, none⟩ = some (.int .i64 (i : Int)) ∧ w.frozen? ⟨R, 1, none⟩ = false := blk_at h 1 rfl
theorem Re.c2 {w : World} {R : Nat} {s : ByteArray} {i : Nat} (h : Re w R s i) : w.cell? ⟨R, 2, none⟩ = some (.int .i64 (-1)) ∧ w.frozen? ⟨R, 2, none⟩ = false := blk_at h 2 rfl
theorem Re.set {w : World} {R : Nat} {s : ByteArray} {i : Nat} (h : Re w R s i) (j : Nat) : Re (w.setCell ⟨R, 1, none⟩ (.int .i64 (j : Int))) R s j := by
  unfold Re at *
  simp [World.setCell, Array.getElem?_modify, h, rdC]
/-- An item. -/
def itC (f : Nat → Bool) (c : Nat) (one : Bool) : Array Value := #[.int .u64 (sW f 0 : Nat), .int .u64 (sW f 1 : Nat), .int .u64 (sW f 2 : Nat), .int .u64 (sW f 3 : Nat), .int .u8 (c : Int), .bool one]
def oneF (c : Nat) : Nat → Bool := fun x => x == c
theorem of_one (c : Nat) (hc : c < 256) (w : World) :
    Calls Tryz.prog 77 #[.slice (some ⟨w.heap.size, 0, none⟩) 1 1] (w.alloc (.cells #[.int .u8 (c : Int)] 5)) fun e w' => e = .returned (.agg #[.int .u64 (sW (oneF c) 0 : Nat), .int .u64 (sW (oneF c) 1 : Nat), .int .u64 (sW (oneF c) 2 : Nat), .int .u64 (sW (oneF c) 3 : Nat)]) ∧ Below w.heap.size w w' := by
  have h := Of_any [UInt8.ofNat c] w.heap.size 0 1 (w.alloc (.cells #[.int .u8 (c : Int)] 5)) (by simp) (by simp) (fun i hi => by
    obtain rfl : i = 0 := by simp at hi; exact hi
    have := toNat_byte hc
    rw [World.cell?_alloc_mark]
    simp [this])
  have he : setV (ofF [UInt8.ofNat c]) = setV (oneF c) := setV_congr (fun x _ => by
    simp only [ofF, oneF, List.any_cons, List.any_nil, Bool.or_false, toNat_byte hc]
    rw [Bool.eq_iff_iff]; simp; exact ⟨fun h => h.symm, fun h => h.symm⟩)
  rw [he] at h
  exact h.mono fun e w' hp => ⟨hp.1, bl_to (bl_alloc w _) hp.2⟩

theorem of_one' (c : Nat) (hc : c < 256) (w : World) (n : Nat) (hn : w.heap.size = n) :
    Calls Tryz.prog 77 #[.slice (some ⟨n, 0, none⟩) 1 1] (w.alloc (.cells #[.int .u8 (c : Int)] 5)) fun e w' => e = .returned (.agg #[.int .u64 (sW (oneF c) 0 : Nat), .int .u64 (sW (oneF c) 1 : Nat), .int .u64 (sW (oneF c) 2 : Nat), .int .u64 (sW (oneF c) 3 : Nat)]) ∧ Below w.heap.size w w' := by
  subst hn; exact of_one c hc w
/-- The end of an item: its variable is written. -/
theorem item_end {w w5 : World} {R i j : Nat} {s : ByteArray} (hr : Re w R s i) (v : Int) (hv : v = (j : Int)) (cs : Array Value)
    (hb : Below ((w.setCell ⟨R, 1, none⟩ (.int .i64 v)).alloc (.cells cs 121)).heap.size ((w.setCell ⟨R, 1, none⟩ (.int .i64 v)).alloc (.cells cs 121)) w5) :
    w5.heap[w.heap.size]? = some (.cells cs 121 (0, 0)) ∧ Re w5 R s j ∧ Ex R w w5 ∧ w.heap.size < w5.heap.size := by
  subst hv
  have hR := blk_lt hr
  have hs : (w.setCell ⟨R, 1, none⟩ (.int .i64 (j : Int))).heap.size = w.heap.size := by simp [World.setCell]
  have h1 := heap_alloc_new (w.setCell ⟨R, 1, none⟩ (.int .i64 (j : Int))) (.cells cs 121)
  rw [hs] at h1
  have h2 := (hr.set j).to (bl_alloc _ (.cells cs 121))
  refine ⟨blk_below h1 hb (by simp [hs]), h2.to hb, ((Ex.refl R w).set 1 _).trans ((Ex.ofBelow (bl_alloc _ _)).trans (Ex.ofBelow hb)), ?_⟩
  have := hb.size
  simp only [World.size_alloc, hs] at this
  omega

theorem six_row {w : World} {b : Nat} {a0 a1 a2 a3 a4 a5 : Value} {t : TypeId} (h : w.heap[b]? = some (.cells #[a0, a1, a2, a3, a4, a5] t (0, 0))) (v0 v1 v2 v3 v4 v5 : Value) :
    (((((w.setCell ⟨b, 0, none⟩ v0).setCell ⟨b, 1, none⟩ v1).setCell ⟨b, 2, none⟩ v2).setCell ⟨b, 3, none⟩ v3).setCell ⟨b, 4, none⟩ v4).setCell ⟨b, 5, none⟩ v5 = w.setRow b #[v0, v1, v2, v3, v4, v5] := by
  rw [setCell_eq_setRow w b 0 _ t _ v0 h]
  rw [setCell_eq_setRow _ b 1 _ t _ v1 (setRow_heap _ _ _ _ _ _ h), setRow_setRow]
  rw [setCell_eq_setRow _ b 2 _ t _ v2 (setRow_heap _ _ _ _ _ _ h), setRow_setRow]
  rw [setCell_eq_setRow _ b 3 _ t _ v3 (setRow_heap _ _ _ _ _ _ h), setRow_setRow]
  rw [setCell_eq_setRow _ b 4 _ t _ v4 (setRow_heap _ _ _ _ _ _ h), setRow_setRow]
  rw [setCell_eq_setRow _ b 5 _ t _ v5 (setRow_heap _ _ _ _ _ _ h), setRow_setRow]
  rfl
theorem info121 : (Tryz.prog.info? 121).map (·.size) = some 6 := by kernel_rfl
theorem Ex.row {R b : Nat} {w w5 : World} (h : Ex R w w5) (hb : w.heap.size ≤ b) (cs : Array Value) : Ex R w (w5.setRow b cs) :=
  ⟨h.os, h.tape, h.output, by rw [setRow_size]; exact h.size, fun k hk hn => by rw [setRow_other _ _ _ _ (by omega)]; exact h.block k hk hn⟩
theorem Re.row {w : World} {R b i : Nat} {s : ByteArray} (h : Re w R s i) (hn : R ≠ b) (cs : Array Value) : Re (w.setRow b cs) R s i := by
  unfold Re at *
  rw [setRow_other _ _ _ _ hn]; exact h

set_option maxRecDepth 8000 in
set_option maxHeartbeats 3200000 in
theorem named_dot (R : Nat) (s : ByteArray) (i c : Nat) (w : World) (hr : Re w R s i) (hsz : s.size ≤ 65536) (h4 : i + 4 < s.size) (hc : c < 256)
    (g1 : s[i + 1]'(by omega) = 46) (g2 : (s[i + 2]'(by omega)).toNat = c) (g3 : s[i + 3]'(by omega) = 46) (g4 : s[i + 4]'h4 = 93) :
    Calls Tryz.prog 106 #[.pointer (some ⟨R, 0, none⟩)] w fun e w' => e = .returned (.agg (itC (oneF c) c true)) ∧ (Re w' R s (i + 5) ∧ Ex R w w') := by
  have hRl := blk_lt hr
  have y1 : IntKind.i64.wrap ((i : Int) + 1) = (i : Int) + 1 := wrap_in _ (by omega) (by omega)
  have y2 : IntKind.i64.wrap ((i : Int) + 2) = (i : Int) + 2 := wrap_in _ (by omega) (by omega)
  have y3 : IntKind.i64.wrap ((i : Int) + 3) = (i : Int) + 3 := wrap_in _ (by omega) (by omega)
  have y4 : IntKind.i64.wrap ((i : Int) + 4) = (i : Int) + 4 := wrap_in _ (by omega) (by omega)
  have y5 : IntKind.i64.wrap ((i : Int) + 5) = (i : Int) + 5 := wrap_in _ (by omega) (by omega)
  have l1 : (i : Int) + 1 < (s.size : Int) := by omega
  have l2 : (i : Int) + 2 < (s.size : Int) := by omega
  have l3 : (i : Int) + 3 < (s.size : Int) := by omega
  have l4 : (i : Int) + 4 < (s.size : Int) := by omega
  have l5 : ¬ (s.size : Int) ≤ (i : Int) + 4 := by omega
  have l6 : decide ((s.size : Int) ≤ (i : Int) + 4) = false := decide_eq_false l5
  have z1 : (0 : Int) ≤ (i : Int) + 1 := by omega
  have z2 : (0 : Int) ≤ (i : Int) + 2 := by omega
  have z3 : (0 : Int) ≤ (i : Int) + 3 := by omega
  have z4 : (0 : Int) ≤ (i : Int) + 4 := by omega
  have HR := Lib.hid hr
  have hRn : ¬ R = w.heap.size := by omega
  have hRn2 : ¬ w.heap.size = R := by omega
  have c0 := hr.c0
  obtain ⟨c1, f1⟩ := hr.c1
  clear hr
  go_enter Tryz.func106, Tryz.ntmps106
  go_wp2_with fail
  refine (of_one' c hc _ _ (by simp)).mono ?_
  rintro e w5 ⟨rfl, hb5⟩
  obtain ⟨h5, hr5, hx5, hs5⟩ := item_end HR.out _ (j := i + 5) (by push_cast; rfl) _ hb5
  have HX := Lib.hid hx5
  have HR5 := Lib.hid hr5
  obtain ⟨d0, e0⟩ := blk_at h5 0 rfl
  obtain ⟨d1, e1⟩ := blk_at h5 1 rfl
  obtain ⟨d2, e2⟩ := blk_at h5 2 rfl
  obtain ⟨d3, e3⟩ := blk_at h5 3 rfl
  obtain ⟨d4, e4⟩ := blk_at h5 4 rfl
  obtain ⟨d5, e5⟩ := blk_at h5 5 rfl
  have H5 := Lib.hid h5
  clear h5 hr5 hx5 hb5 c0 c1 f1
  go_wp2_with fail
  rw [six_row H5.out]
  refine bodyPost_ret (results_cell_row (by rfl) _ _ w.heap.size 121 (itC (oneF c) c true) (0, 0) _ (by rfl) (setRow_heap _ _ _ _ _ _ H5.out) Tryz.underlying121 (by rfl) info121) rfl ?_
  exact ⟨rfl, HR5.out.row (by omega) _, HX.out.row (Nat.le_refl _) _⟩
end Go.Proofs.YtlhppbendpnkeaaGreatDoor
/- sets: the reader: item. -/
namespace Go.Proofs.YtlhppbendpnkeaaGreatDoor
set_option linter.unusedSimpArgs false
set_option linter.unusedVariables false
open Go.RowKit

theorem Re.bel {W0 : World} {R : Nat} {s : ByteArray} {i : Nat} (h : Re W0 R s i) (m : Bel W0) : Re m.val R s i := h.to m.below

set_option maxRecDepth 8000 in
set_option maxHeartbeats 3200000 in
theorem item_plain (R : Nat) (s : ByteArray) (i c : Nat) (w : World) (hr : Re w R s i) (hsz : s.size ≤ 65536) (hi : i < s.size) (hc : c < 256)
    (g0 : (s[i]'hi).toNat = c) (n91 : c ≠ 91) (n92 : c ≠ 92) :
    Calls Tryz.prog 90 #[.pointer (some ⟨R, 0, none⟩)] w fun e w' => e = .returned (.agg (itC (oneF c) c true)) ∧ (Re w' R s (i + 1) ∧ Ex R w w') := by
  have hRl := blk_lt hr
  have l0 : (i : Int) < (s.size : Int) := by omega
  have l5 : ¬ (s.size : Int) ≤ (i : Int) := by omega
  have l6 : decide ((s.size : Int) ≤ (i : Int)) = false := decide_eq_false l5
  have z0 : (0 : Int) ≤ (i : Int) := by omega
  have y1 : IntKind.i64.wrap ((i : Int) + 1) = (i : Int) + 1 := wrap_in _ (by omega) (by omega)
  have q1 : ((c : Int) == 91) = false := by simp; omega
  have q2 : ((c : Int) == 92) = false := by simp; omega
  have q3 : ¬ (c : Int) = 91 := by omega
  have q4 : ¬ (c : Int) = 92 := by omega
  obtain ⟨W1, hW1⟩ : ∃ W, w.alloc (.cells #[.int .u64 0, .int .u64 0, .int .u64 0, .int .u64 0, .int .u8 0, .bool false] 121) = W := ⟨_, rfl⟩
  have HB1 : Hid (Below w.heap.size w W1) := by rw [← hW1]; exact bl_alloc _ _
  have HK1 : Hid (W1.heap[w.heap.size]? = some (.cells #[.int .u64 0, .int .u64 0, .int .u64 0, .int .u64 0, .int .u8 0, .bool false] 121 (0, 0))) := by rw [← hW1]; exact heap_alloc_new _ _
  have HR1 := Lib.hid (hr.to HB1.out)
  have HS1 : Hid (w.heap.size < W1.heap.size) := blk_lt HK1.out
  have C0 : ∀ m : Bel W1, m.val.cell? ⟨R, 0, none⟩ = some (.string s) := fun m => (HR1.out.bel m).c0
  have C1 : ∀ m : Bel W1, m.val.cell? ⟨R, 1, none⟩ = some (.int .i64 (i : Int)) := fun m => (HR1.out.bel m).c1.1
  have HW1 := Lib.hid hW1
  clear hW1 hr
  go_enter Tryz.func90, Tryz.ntmps90
  go_wp2_with fail
  rw [HW1.out]
  refine region_bel W1 (Below.refl _ _) (by kernel_rfl) (by kernel_rfl) ?_
  repeat (go_big_quiet_step (fail))
  refine wpQuiet_nil ?_
  intro m1
  go_wp2_with fail
  refine region_bel W1 m1.below (by kernel_rfl) (by kernel_rfl) ?_
  repeat (go_big_quiet_step (fail))
  refine wpQuiet_nil ?_
  intro m2
  go_wp2_with fail
  refine region_bel W1 m2.below (by kernel_rfl) (by kernel_rfl) ?_
  repeat (go_big_quiet_step (fail))
  refine wpQuiet_nil ?_
  intro m3
  have HR3 := Lib.hid (HR1.out.bel m3)
  have k1 := C1 m3
  have f1 := (HR3.out).c1.2
  clear C0 C1
  go_wp2_with fail
  obtain ⟨W2, hW2⟩ : ∃ W, m3.val.setCell ⟨R, 1, none⟩ (.int .i64 ((i : Int) + 1)) = W := ⟨_, rfl⟩
  have HR2 : Hid (Re W2 R s (i + 1)) := by
    show Re _ _ _ _
    rw [← hW2]
    have := HR3.out.set (i + 1)
    push_cast at this
    exact this
  have HX2 : Hid (Ex R w W2) := by rw [← hW2]; exact ((Ex.ofBelow HB1.out).trans (Ex.ofBelow m3.below)).set 1 _
  have HK2 : Hid (W2.heap[w.heap.size]? = some (.cells #[.int .u64 0, .int .u64 0, .int .u64 0, .int .u64 0, .int .u8 0, .bool false] 121 (0, 0))) := by
    show _ = _
    rw [← hW2, Below.heap_setCell _ _ _ _ (by show w.heap.size ≠ R; omega)]
    exact blk_below HK1.out m3.below HS1.out
  rw [hW2]
  clear hW2 k1 f1
  refine region_bel W2 (Below.refl _ _) (by kernel_rfl) (by kernel_rfl) ?_
  repeat (go_big_quiet_step (fail))
  refine wpQuiet_nil ?_
  intro m4
  go_wp2_with fail
  refine (of_one' c hc _ _ (by simp)).mono ?_
  rintro e w5 ⟨rfl, hb5⟩
  have h5 := blk_below (blk_below HK2.out m4.below (blk_lt HK2.out)) hb5 (blk_lt (blk_below HK2.out m4.below (blk_lt HK2.out)))
  have HR5 := Lib.hid ((HR2.out.bel m4).to hb5)
  have HX := Lib.hid ((HX2.out.trans (Ex.ofBelow m4.below)).trans (Ex.ofBelow hb5))
  obtain ⟨d0, e0⟩ := blk_at h5 0 rfl
  obtain ⟨d1, e1⟩ := blk_at h5 1 rfl
  obtain ⟨d2, e2⟩ := blk_at h5 2 rfl
  obtain ⟨d3, e3⟩ := blk_at h5 3 rfl
  obtain ⟨d4, e4⟩ := blk_at h5 4 rfl
  obtain ⟨d5, e5⟩ := blk_at h5 5 rfl
  have H5 := Lib.hid h5
  clear h5 hb5
  go_wp2_with fail
  rw [six_row H5.out]
  refine bodyPost_ret (results_cell_row (by rfl) _ _ w.heap.size 121 (itC (oneF c) c true) (0, 0) _ (by rfl) (setRow_heap _ _ _ _ _ _ H5.out) Tryz.underlying121 (by rfl) info121) rfl ?_
  exact ⟨rfl, HR5.out.row (by omega) _, HX.out.row (Nat.le_refl _) _⟩

set_option maxRecDepth 8000 in
set_option maxHeartbeats 3200000 in
theorem item_dot (R : Nat) (s : ByteArray) (i c : Nat) (w : World) (hr : Re w R s i) (hsz : s.size ≤ 65536) (h4 : i + 4 < s.size) (hc : c < 256)
    (g0 : s[i]'(by omega) = 91) (g1 : s[i + 1]'(by omega) = 46) (g2 : (s[i + 2]'(by omega)).toNat = c) (g3 : s[i + 3]'(by omega) = 46) (g4 : s[i + 4]'h4 = 93) :
    Calls Tryz.prog 90 #[.pointer (some ⟨R, 0, none⟩)] w fun e w' => e = .returned (.agg (itC (oneF c) c true)) ∧ (Re w' R s (i + 5) ∧ Ex R w w') := by
  have hRl := blk_lt hr
  have l0 : (i : Int) < (s.size : Int) := by omega
  have l5 : ¬ (s.size : Int) ≤ (i : Int) := by omega
  have l6 : decide ((s.size : Int) ≤ (i : Int)) = false := decide_eq_false l5
  have z0 : (0 : Int) ≤ (i : Int) := by omega
  have z1 : (0 : Int) ≤ (i : Int) + 1 := by omega
  have y1 : IntKind.i64.wrap ((i : Int) + 1) = (i : Int) + 1 := wrap_in _ (by omega) (by omega)
  have l1 : (i : Int) + 1 < (s.size : Int) := by omega
  have l2 : decide ((i : Int) + 1 < (s.size : Int)) = true := decide_eq_true l1
  obtain ⟨W1, hW1⟩ : ∃ W, w.alloc (.cells #[.int .u64 0, .int .u64 0, .int .u64 0, .int .u64 0, .int .u8 0, .bool false] 121) = W := ⟨_, rfl⟩
  have HB1 : Hid (Below w.heap.size w W1) := by rw [← hW1]; exact bl_alloc _ _
  have HK1 : Hid (W1.heap[w.heap.size]? = some (.cells #[.int .u64 0, .int .u64 0, .int .u64 0, .int .u64 0, .int .u8 0, .bool false] 121 (0, 0))) := by rw [← hW1]; exact heap_alloc_new _ _
  have HR1 := Lib.hid (hr.to HB1.out)
  have HS1 : Hid (w.heap.size < W1.heap.size) := blk_lt HK1.out
  have C0 : ∀ m : Bel W1, m.val.cell? ⟨R, 0, none⟩ = some (.string s) := fun m => (HR1.out.bel m).c0
  have C1 : ∀ m : Bel W1, m.val.cell? ⟨R, 1, none⟩ = some (.int .i64 (i : Int)) := fun m => (HR1.out.bel m).c1.1
  have HND := Lib.hid (fun m : Bel W1 => named_dot R s i c m.val (HR1.out.bel m) hsz h4 hc g1 g2 g3 g4)
  have HW1 := Lib.hid hW1
  clear hW1 hr g2 g3 g4
  go_enter Tryz.func90, Tryz.ntmps90
  go_wp2_with fail
  rw [HW1.out]
  refine region_bel W1 (Below.refl _ _) (by kernel_rfl) (by kernel_rfl) ?_
  repeat (go_big_quiet_step (fail))
  refine wpQuiet_nil ?_
  intro m1
  go_wp2_with fail
  refine region_bel W1 m1.below (by kernel_rfl) (by kernel_rfl) ?_
  repeat (go_big_quiet_step (fail))
  refine wpQuiet_nil ?_
  intro m2
  go_wp2_with fail
  refine region_bel W1 m2.below (by kernel_rfl) (by kernel_rfl) ?_
  repeat (go_big_quiet_step (fail))
  refine wpQuiet_nil ?_
  intro m3
  clear C0 C1
  go_wp2_with fail
  refine (HND.out m3).mono ?_
  rintro e w5 ⟨rfl, hr5, hx5⟩
  have h3 := blk_below HK1.out m3.below HS1.out
  have h5 : w5.heap[w.heap.size]? = some (.cells #[.int .u64 0, .int .u64 0, .int .u64 0, .int .u64 0, .int .u8 0, .bool false] 121 (0, 0)) := by
    rw [hx5.block _ (blk_lt h3) (by omega)]; exact h3
  have HR5 := Lib.hid hr5
  have HX := Lib.hid (((Ex.ofBelow HB1.out).trans (Ex.ofBelow m3.below)).trans hx5)
  obtain ⟨d0, e0⟩ := blk_at h5 0 rfl
  obtain ⟨d1, e1⟩ := blk_at h5 1 rfl
  obtain ⟨d2, e2⟩ := blk_at h5 2 rfl
  obtain ⟨d3, e3⟩ := blk_at h5 3 rfl
  obtain ⟨d4, e4⟩ := blk_at h5 4 rfl
  obtain ⟨d5, e5⟩ := blk_at h5 5 rfl
  have H5 := Lib.hid h5
  clear h5 h3 hr5 hx5
  unfold itC
  go_wp2_with fail
  rw [six_row H5.out]
  refine bodyPost_ret (results_cell_row (by rfl) _ _ w.heap.size 121 (itC (oneF c) c true) (0, 0) _ (by rfl) (setRow_heap _ _ _ _ _ _ H5.out) Tryz.underlying121 (by rfl) info121) rfl ?_
  exact ⟨rfl, HR5.out.row (by omega) _, HX.out.row (Nat.le_refl _) _⟩
end Go.Proofs.YtlhppbendpnkeaaGreatDoor
