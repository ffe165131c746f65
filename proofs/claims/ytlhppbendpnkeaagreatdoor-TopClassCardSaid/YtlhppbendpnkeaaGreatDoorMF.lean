/- Texts of one chain, merged by a small program (ZH, ZI, ZJ). -/
import Derived.Test.YtlhppbendpnkeaaGreatDoorZG
import Derived.Deep.MidRow
/- syntax: nodes as letters; one; repeated where nothing follows. -/
namespace Go.Proofs.YtlhppbendpnkeaaGreatDoor
set_option linter.unusedSimpArgs false
set_option linter.unusedVariables false
open Go.RowKit

/-- All blocks but R and M are as they were. -/
structure Ey (R M : Nat) (w w' : World) : Prop where
  os : w'.os = w.os
  tape : w'.tape = w.tape
  output : w'.output = w.output
  size : w.heap.size ≤ w'.heap.size
  block : ∀ k, k < w.heap.size → k ≠ R → k ≠ M → w'.heap[k]? = w.heap[k]?
section
variable {R M : Nat} {a b c : World}
theorem Ey.ofEx (h : Ex R a b) : Ey R M a b := ⟨h.os, h.tape, h.output, h.size, fun k hk hn _ => h.block k hk hn⟩
theorem Ey.ofBelow (h : Below a.heap.size a b) : Ey R M a b := Ey.ofEx (Ex.ofBelow h)
theorem Ey.trans (h : Ey R M a b) (k : Ey R M b c) : Ey R M a c :=
  ⟨k.os.trans h.os, k.tape.trans h.tape, k.output.trans h.output, Nat.le_trans h.size k.size, fun i hi hn hm => (k.block i (Nat.lt_of_lt_of_le hi h.size) hn hm).trans (h.block i hi hn hm)⟩
theorem Ey.row {x : Nat} (h : Ey R M a b) (hb : a.heap.size ≤ x) (cs : Array Value) : Ey R M a (b.setRow x cs) :=
  ⟨h.os, h.tape, h.output, by rw [setRow_size]; exact h.size, fun k hk hn hm => by rw [setRow_other _ _ _ _ (by omega)]; exact h.block k hk hn hm⟩
theorem Ey.set {o : Nat} {v : Value} (h : Ey R M a b) : Ey R M a (b.setCell ⟨R, o, none⟩ v) :=
  ⟨h.os, h.tape, h.output, by simpa [World.setCell] using h.size, fun k hk hn hm => (Below.heap_setCell _ _ _ _ hn).trans (h.block k hk hn hm)⟩
theorem Ey.grown (h : Ey R M a b) (hg : b.grownBy c none) : Ey R M a c :=
  ⟨hg.os.trans h.os, hg.tape.trans h.tape, hg.output.trans h.output, Nat.le_trans h.size hg.size, fun k hk hn hm => (hg.block k (Nat.lt_of_lt_of_le hk h.size) (by simp)).trans (h.block k hk hn hm)⟩
theorem Ey.below {B : Nat} (h : Ey R M a b) (hB : B ≤ R) (hM : B ≤ M) (hs : B ≤ a.heap.size) : Below B a b :=
  ⟨h.os, h.tape, h.output, h.size, fun k hk => h.block k (by omega) (by omega) (by omega)⟩
end

/-- Nine cells. -/
structure Nd (cs : Array Value) : Prop where
  size : cs.size = 9
  one : ∀ v ∈ cs.toList, v.oneCell' = true
theorem Nd.nine {cs : Array Value} (h : Nd cs) : ∃ a0 a1 a2 a3 a4 a5 a6 a7 a8, cs = #[a0, a1, a2, a3, a4, a5, a6, a7, a8] := by
  obtain ⟨l⟩ := cs
  have := h.size
  simp only [List.size_toArray] at this
  match l, this with
  | [a0, a1, a2, a3, a4, a5, a6, a7, a8], _ => exact ⟨a0, a1, a2, a3, a4, a5, a6, a7, a8, rfl⟩
/-- What a node's kids are: none, or one node of a set, in a block not below lo. -/
def Kid (lo : Nat) (w : World) (v : Value) : Option (Nat → Bool) → Prop
  | none => v = .slice none 0 0
  | some h => ∃ B, v = .slice (some ⟨B, 0, none⟩) 1 1 ∧ lo ≤ B ∧ w.heap[B]? = some (.cells (ndC 2 h 0 0 0 (.slice none 0 0)) 30 (0, 0))
theorem Kid.one {lo : Nat} {w : World} {v : Value} {k : Option (Nat → Bool)} (h : Kid lo w v k) : v.oneCell' = true := by
  cases k with
  | none => subst h; rfl
  | some f => obtain ⟨B, rfl, _⟩ := h; rfl
theorem Kid.shape {lo : Nat} {w : World} {v : Value} {k : Option (Nat → Bool)} (h : Kid lo w v k) : ∃ p n c, v = .slice p n c := by
  cases k with
  | none => exact ⟨_, _, _, h⟩
  | some f => obtain ⟨B, rfl, _⟩ := h; exact ⟨_, _, _, rfl⟩
theorem Kid.to {lo lo' : Nat} {w w' : World} {v : Value} {k : Option (Nat → Bool)} (h : Kid lo w v k) (hl : lo' ≤ lo) (hk : ∀ B, lo ≤ B → B < w.heap.size → w'.heap[B]? = w.heap[B]?) : Kid lo' w' v k := by
  cases k with
  | none => exact h
  | some f => obtain ⟨B, rfl, hB, hb⟩ := h; exact ⟨B, rfl, by omega, (hk B hB (blk_lt hb)).trans hb⟩
theorem Kid.below {lo : Nat} {w w' : World} {v : Value} {k : Option (Nat → Bool)} (h : Kid lo w v k) (hb : Below w.heap.size w w') : Kid lo w' v k := h.to (Nat.le_refl _) (fun B _ hB => hb.block B hB)
theorem nd_ndC (k : Nat) (f : Nat → Bool) (mn mx : Int) (g : Nat) {v : Value} (h : v.oneCell' = true) : Nd (ndC k f mn mx g v) :=
  ⟨rfl, fun u hu => by
    simp only [ndC, List.mem_cons, List.not_mem_nil, or_false] at hu
    rcases hu with rfl | rfl | rfl | rfl | rfl | rfl | rfl | rfl | rfl
    all_goals first | rfl | exact h⟩
theorem run_node {W : World} {b : Nat} {old cs : Array Value} {t : TypeId} (h : W.heap[b]? = some (.cells old t (0, 0))) (hs : old.size = 9) (hc : Nd cs) :
    (storeCells ⟨b, 0, none⟩ cs.toList).run Tryz.prog W = .ok () (W.setRow b cs) := by
  have h1 := run_storeCells_from (P := Tryz.prog) b t cs.toList 0 old W h (by rw [hs]; simp [hc.size]) hc.one
  simpa using h1
/-- How a call of the parser ends: the node, and where the parser stands. -/
def Pret (k : Nat) (f : Nat → Bool) (mx : Int) (gr : Nat) (kk : Option (Nat → Bool)) (R M : Nat) (s : ByteArray) (j : Nat) (x : Bool) (g : Nat) (m : Value) (o lo : Nat) (w : World) (e : Ending) (w' : World) : Prop :=
  ∃ v, e = .returned (.agg (ndC k f 0 mx gr v)) ∧ Kid lo w' v kk ∧ Pa w' R s j x g m o ∧ Ey R M w w'

set_option maxRecDepth 8000 in
set_option maxHeartbeats 1600000 in
theorem one_any (f : Nat → Bool) (w : World) :
    Calls Tryz.prog 74 #[.agg (setC f)] w fun e w' => e = .returned (.agg (ndC 2 f 0 0 0 (.slice none 0 0))) ∧ Below w.heap.size w w' := by
  unfold setC
  go_enter Tryz.func74, Tryz.ntmps74
  go_wp2_with fail
  refine bodyPost_ret (results_cell_row (by rfl) _ _ (w.heap.size + 1) 30 (ndC 2 f 0 0 0 (.slice none 0 0)) (0, 0) _ (by rfl) (heap_alloc2_new _ _ _) Tryz.underlying30 (by rfl) info30) rfl ?_
  exact ⟨rfl, (bl_alloc _ _).trans ((bl_alloc _ _).mono (by simp))⟩

set_option maxRecDepth 8000 in
set_option maxHeartbeats 1600000 in
/-- Branches where one branch alone stands. -/
theorem branches_any (R M : Nat) (s : ByteArray) (j : Nat) (x : Bool) (g : Nat) (m : Value) (o k : Nat) (f : Nat → Bool) (mx : Int) (gr : Nat) (kk : Option (Nat → Bool)) (w : World)
    (hR : R < w.heap.size) (hM : M < w.heap.size) (hj : j ≤ s.size) (hsz : s.size ≤ 65536) (hsg : signB x (s.data.toList.drop j) 124 = false)
    (HB : ∀ W, Below w.heap.size w W → Calls Tryz.prog 32 #[.pointer (some ⟨R, 0, none⟩)] W fun e w' => Pret k f mx gr kk R M s j x g m o W.heap.size W e w') :
    Calls Tryz.prog 15 #[.pointer (some ⟨R, 0, none⟩)] w fun e w' => Pret k f mx gr kk R M s j x g m o w.heap.size w e w' := by
  have HB' := Lib.hid HB
  obtain ⟨W1, hW1⟩ : ∃ W, w.alloc (.cells zeroC 30) = W := ⟨_, rfl⟩
  have HX1 : Hid (Below w.heap.size w W1) := by show Below _ _ _; rw [← hW1]; exact bl_alloc _ _
  have HZ1 : Hid (W1.heap[w.heap.size]? = some (.cells zeroC 30 (0, 0))) := by show _ = _; rw [← hW1]; exact heap_alloc_new _ _
  have HS1 : Hid (W1.heap.size = w.heap.size + 1) := by show _ = _; rw [← hW1]; simp
  have HW1 := Lib.hid hW1
  unfold zeroC at HW1
  have HSG := Lib.hid hsg
  clear hW1 HB hsg
  go_enter Tryz.func15, Tryz.ntmps15
  go_wp2_with fail
  rw [HW1.out]
  refine (HB'.out W1 HX1.out).mono ?_
  rintro e w2 ⟨v, rfl, hk, hp, hy⟩
  obtain ⟨pp, pn, pc, rfl⟩ := hk.shape
  have HK := Lib.hid hk
  have HP := Lib.hid hp
  have HY := Lib.hid hy
  have HK1 : Hid (w2.heap[w.heap.size]? = some (.cells zeroC 30 (0, 0))) := by
    show _ = _
    rw [hy.block _ (by rw [HS1.out]; omega) (by omega) (by omega)]; exact HZ1.out
  have hs2 := hy.size
  have h2 : w.heap.size < w2.heap.size := by have := HS1.out; omega
  clear hk hp hy hs2
  have SA : Hid (∀ W, Pa W R s j x g m o → Calls Tryz.prog 33 #[.pointer (some ⟨R, 0, none⟩), .int .u8 124] W fun e w' => e = .returned (.bool (signB x (s.data.toList.drop j) 124)) ∧ Below W.heap.size W w') := fun W hW => sign_any R s j x g m o 124 W hW hj hsz
  rw [HSG.out] at SA
  obtain ⟨w3, hw3⟩ : ∃ W, w2.alloc (.cells (ndC k f 0 mx gr (.slice pp pn pc)) 30) = W := ⟨_, rfl⟩
  have HB3 : Hid (Below w2.heap.size w2 w3) := by show Below _ _ _; rw [← hw3]; exact bl_alloc _ _
  have HN3 : Hid (w3.heap[w2.heap.size]? = some (.cells (ndC k f 0 mx gr (.slice pp pn pc)) 30 (0, 0))) := by show _ = _; rw [← hw3]; exact heap_alloc_new _ _
  have HW3 := Lib.hid hw3
  clear hw3
  unfold ndC at HW3 ⊢
  go_wp2_with fail
  rw [HW3.out]
  refine wp_loop_rounds 1 ?_
  rw [rounds_succ]
  go_wp2_with fail
  refine (SA.out w3 (HP.out.to HB3.out)).mono ?_
  rintro e w4 ⟨rfl, hb4⟩
  have hN4 := blk_below HN3.out hb4 (blk_lt HN3.out)
  have hZ4 := blk_below (blk_below HK1.out HB3.out h2) hb4 (Nat.lt_of_lt_of_le h2 HB3.out.size)
  have HB4 := Lib.hid (bl_to HB3.out hb4)
  unfold ndC at hN4
  unfold zeroC at hZ4
  obtain ⟨n0, -⟩ := blk_at hN4 0 rfl
  obtain ⟨n1, -⟩ := blk_at hN4 1 rfl
  obtain ⟨n2, -⟩ := blk_at hN4 2 rfl
  obtain ⟨n3, -⟩ := blk_at hN4 3 rfl
  obtain ⟨n4, -⟩ := blk_at hN4 4 rfl
  obtain ⟨n5, -⟩ := blk_at hN4 5 rfl
  obtain ⟨n6, -⟩ := blk_at hN4 6 rfl
  obtain ⟨n7, -⟩ := blk_at hN4 7 rfl
  obtain ⟨n8, -⟩ := blk_at hN4 8 rfl
  obtain ⟨y0, g0⟩ := blk_at hZ4 0 rfl
  obtain ⟨y1, g1⟩ := blk_at hZ4 1 rfl
  obtain ⟨y2, g2⟩ := blk_at hZ4 2 rfl
  obtain ⟨y3, g3⟩ := blk_at hZ4 3 rfl
  obtain ⟨y4, g4⟩ := blk_at hZ4 4 rfl
  obtain ⟨y5, g5⟩ := blk_at hZ4 5 rfl
  obtain ⟨y6, g6⟩ := blk_at hZ4 6 rfl
  obtain ⟨y7, g7⟩ := blk_at hZ4 7 rfl
  obtain ⟨y8, g8⟩ := blk_at hZ4 8 rfl
  have HZ4 := Lib.hid hZ4
  have HN4 := Lib.hid hN4
  have b1 : ¬ w.heap.size = w2.heap.size := by omega
  have b2 : ¬ w2.heap.size = w.heap.size := by omega
  clear hb4 hZ4 hN4
  go_wp2_with fail
  rw [nine_row HZ4.out]
  refine bodyPost_ret (results_cell_row (by rfl) _ _ w.heap.size 30 (ndC k f 0 mx gr (.slice pp pn pc)) (0, 0) _ (by rfl) (setRow_heap _ _ _ _ _ _ HZ4.out) Tryz.underlying30 (by rfl) info30) rfl ?_
  have hl1 := HS1.out
  refine ⟨_, rfl, (HK.out.below HB4.out).to (by omega) (fun B hB _ => setRow_other _ _ _ _ (by omega)), (HP.out.to HB4.out).row (by omega) _, ((Ey.ofBelow HX1.out).trans (HY.out.trans (Ey.ofBelow HB4.out))).row (Nat.le_refl _) _⟩
end Go.Proofs.YtlhppbendpnkeaaGreatDoor
/- syntax: repeated where nothing follows; branch. -/
namespace Go.Proofs.YtlhppbendpnkeaaGreatDoor
set_option linter.unusedSimpArgs false
set_option linter.unusedVariables false
open Go.RowKit

set_option maxRecDepth 8000 in
set_option maxHeartbeats 3200000 in
theorem repeated_none (R : Nat) (s : ByteArray) (i : Nat) (x : Bool) (g : Nat) (m : Value) (o k : Nat) (f : Nat → Bool) (mx : Int) (gr : Nat) (pp : Option Addr) (pn pc : Nat) (w : World) (hp : Pa w R s i x g m o) (hi : i ≤ s.size) (hsz : s.size ≤ 65536)
    (h42 : ∀ h : i < s.size, s[i]'h ≠ 42) (h43 : signB x (s.data.toList.drop i) 43 = false) (h63 : signB x (s.data.toList.drop i) 63 = false) (h123 : signB x (s.data.toList.drop i) 123 = false) :
    Calls Tryz.prog 46 #[.pointer (some ⟨R, 0, none⟩), .agg (ndC k f 0 mx gr (.slice pp pn pc))] w fun e w' => e = .returned (.agg (ndC k f 0 mx gr (.slice pp pn pc))) ∧ Below w.heap.size w w' := by
  have SA : Hid (∀ W, Pa W R s i x g m o → Calls Tryz.prog 33 #[.pointer (some ⟨R, 0, none⟩), .int .u8 43] W fun e w' => e = .returned (.bool (signB x (s.data.toList.drop i) 43)) ∧ Below W.heap.size W w') := fun W hW => sign_any R s i x g m o 43 W hW hi hsz
  have SB : Hid (∀ W, Pa W R s i x g m o → Calls Tryz.prog 33 #[.pointer (some ⟨R, 0, none⟩), .int .u8 63] W fun e w' => e = .returned (.bool (signB x (s.data.toList.drop i) 63)) ∧ Below W.heap.size W w') := fun W hW => sign_any R s i x g m o 63 W hW hi hsz
  have SC : Hid (∀ W, Pa W R s i x g m o → Calls Tryz.prog 33 #[.pointer (some ⟨R, 0, none⟩), .int .u8 123] W fun e w' => e = .returned (.bool (signB x (s.data.toList.drop i) 123)) ∧ Below W.heap.size W w') := fun W hW => sign_any R s i x g m o 123 W hW hi hsz
  rw [h43] at SA
  rw [h63] at SB
  rw [h123] at SC
  have z0 : (0 : Int) ≤ (i : Int) := by omega
  obtain ⟨W1, hW1⟩ : ∃ W, (w.alloc (.cells (ndC k f 0 mx gr (.slice pp pn pc)) 30)).alloc (.cells zeroC 30) = W := ⟨_, rfl⟩
  have HX1 : Hid (Below w.heap.size w W1) := by show Below _ _ _; rw [← hW1]; exact (bl_alloc _ _).trans ((bl_alloc _ _).mono (by simp))
  have HN1 : Hid (W1.heap[w.heap.size]? = some (.cells (ndC k f 0 mx gr (.slice pp pn pc)) 30 (0, 0))) := by
    show _ = _
    rw [← hW1, Below.heap_alloc _ _ _ (by simp)]; exact heap_alloc_new _ _
  have HZ1 : Hid (W1.heap[w.heap.size + 1]? = some (.cells zeroC 30 (0, 0))) := by
    show _ = _
    rw [← hW1]; exact heap_alloc2_new _ _ _
  have HP1 : Hid (Pa W1 R s i x g m o) := by show Pa _ _ _ _ _ _ _ _; rw [← hW1]; exact (hp.to (bl_alloc _ _)).to (bl_alloc _ _)
  have C0 : ∀ kb : Bel W1, kb.val.cell? ⟨R, 0, none⟩ = some (.string s) := fun kb => (HP1.out.to kb.below).c0
  have C1 : ∀ kb : Bel W1, kb.val.cell? ⟨R, 1, none⟩ = some (.int .i64 (i : Int)) := fun kb => (HP1.out.to kb.below).c1.1
  have HW1 := Lib.hid hW1
  unfold zeroC ndC at HW1
  clear hW1 hp h43 h63 h123
  unfold ndC
  by_cases hlt : i < s.size
  · have l0 : (i : Int) < (s.size : Int) := by omega
    have l1 : decide ((i : Int) < (s.size : Int)) = true := decide_eq_true l0
    have q1 : (((s[i]'hlt).toNat : Int) == 42) = false := by
      have := eq_byte (s[i]'hlt) 42
      change ((((s[i]'hlt).toNat : Nat) : Int) == 42) = _ at this
      rw [this]; simpa using h42 hlt
    clear h42
    go_enter Tryz.func46, Tryz.ntmps46
    go_wp2_with fail
    rw [HW1.out]
    refine region_bel W1 (Below.refl _ _) (by kernel_rfl) (by kernel_rfl) ?_
    repeat (go_big_quiet_step (fail))
    refine wpQuiet_nil ?_
    intro kb
    have hN := blk_below HN1.out kb.below (blk_lt HN1.out)
    have hZ := blk_below HZ1.out kb.below (blk_lt HZ1.out)
    have HK := Lib.hid kb.below
    have HPk := Lib.hid (HP1.out.to kb.below)
    obtain ⟨wk, hwk⟩ : ∃ W, kb.val = W := ⟨_, rfl⟩
    rw [hwk] at hN hZ HK HPk ⊢
    have HN := Lib.hid hN
    have HZ := Lib.hid hZ
    clear C0 C1 hN hZ hwk kb
    go_wp2_with fail
    refine (SA.out wk HPk.out).mono ?_
    rintro e w2 ⟨rfl, hb2⟩
    have HB2 := Lib.hid hb2
    clear hb2
    go_wp2_with fail
    refine (SB.out w2 (HPk.out.to HB2.out)).mono ?_
    rintro e w3 ⟨rfl, hb3⟩
    have HB3 := Lib.hid (bl_to HB2.out hb3)
    clear hb3
    go_wp2_with fail
    refine (SC.out w3 (HPk.out.to HB3.out)).mono ?_
    rintro e w4 ⟨rfl, hb4⟩
    have HB4 := Lib.hid (bl_to HB3.out hb4)
    clear hb4
    have hN4 := blk_below HN.out HB4.out (blk_lt HN.out)
    have hZ4 := blk_below HZ.out HB4.out (blk_lt HZ.out)
    unfold ndC at hN4
    unfold zeroC at hZ4
    obtain ⟨n0, -⟩ := blk_at hN4 0 rfl
    obtain ⟨n1, -⟩ := blk_at hN4 1 rfl
    obtain ⟨n2, -⟩ := blk_at hN4 2 rfl
    obtain ⟨n3, -⟩ := blk_at hN4 3 rfl
    obtain ⟨n4, -⟩ := blk_at hN4 4 rfl
    obtain ⟨n5, -⟩ := blk_at hN4 5 rfl
    obtain ⟨n6, -⟩ := blk_at hN4 6 rfl
    obtain ⟨n7, -⟩ := blk_at hN4 7 rfl
    obtain ⟨n8, -⟩ := blk_at hN4 8 rfl
    obtain ⟨y0, g0⟩ := blk_at hZ4 0 rfl
    obtain ⟨y1, g1⟩ := blk_at hZ4 1 rfl
    obtain ⟨y2, g2⟩ := blk_at hZ4 2 rfl
    obtain ⟨y3, g3⟩ := blk_at hZ4 3 rfl
    obtain ⟨y4, g4⟩ := blk_at hZ4 4 rfl
    obtain ⟨y5, g5⟩ := blk_at hZ4 5 rfl
    obtain ⟨y6, g6⟩ := blk_at hZ4 6 rfl
    obtain ⟨y7, g7⟩ := blk_at hZ4 7 rfl
    obtain ⟨y8, g8⟩ := blk_at hZ4 8 rfl
    have HZ4 := Lib.hid hZ4
    clear hN4 hZ4
    go_wp2_with fail
    rw [nine_row HZ4.out]
    refine bodyPost_ret (results_cell_row (by rfl) _ _ (w.heap.size + 1) 30 (ndC k f 0 mx gr (.slice pp pn pc)) (0, 0) _ (by rfl) (setRow_heap _ _ _ _ _ _ HZ4.out) Tryz.underlying30 (by rfl) info30) rfl ?_
    exact ⟨rfl, below_setRow (HX1.out.trans ((HK.out.trans (HB4.out.mono HK.out.size)).mono HX1.out.size)) (by omega) _⟩
  · have l0 : ¬ (i : Int) < (s.size : Int) := by omega
    have l1 : decide ((i : Int) < (s.size : Int)) = false := decide_eq_false l0
    clear h42
    go_enter Tryz.func46, Tryz.ntmps46
    go_wp2_with fail
    rw [HW1.out]
    refine region_bel W1 (Below.refl _ _) (by kernel_rfl) (by kernel_rfl) ?_
    repeat (go_big_quiet_step (fail))
    refine wpQuiet_nil ?_
    intro kb
    have hN := blk_below HN1.out kb.below (blk_lt HN1.out)
    have hZ := blk_below HZ1.out kb.below (blk_lt HZ1.out)
    have HK := Lib.hid kb.below
    have HPk := Lib.hid (HP1.out.to kb.below)
    obtain ⟨wk, hwk⟩ : ∃ W, kb.val = W := ⟨_, rfl⟩
    rw [hwk] at hN hZ HK HPk ⊢
    have HN := Lib.hid hN
    have HZ := Lib.hid hZ
    clear C0 C1 hN hZ hwk kb
    go_wp2_with fail
    refine (SA.out wk HPk.out).mono ?_
    rintro e w2 ⟨rfl, hb2⟩
    have HB2 := Lib.hid hb2
    clear hb2
    go_wp2_with fail
    refine (SB.out w2 (HPk.out.to HB2.out)).mono ?_
    rintro e w3 ⟨rfl, hb3⟩
    have HB3 := Lib.hid (bl_to HB2.out hb3)
    clear hb3
    go_wp2_with fail
    refine (SC.out w3 (HPk.out.to HB3.out)).mono ?_
    rintro e w4 ⟨rfl, hb4⟩
    have HB4 := Lib.hid (bl_to HB3.out hb4)
    clear hb4
    have hN4 := blk_below HN.out HB4.out (blk_lt HN.out)
    have hZ4 := blk_below HZ.out HB4.out (blk_lt HZ.out)
    unfold ndC at hN4
    unfold zeroC at hZ4
    obtain ⟨n0, -⟩ := blk_at hN4 0 rfl
    obtain ⟨n1, -⟩ := blk_at hN4 1 rfl
    obtain ⟨n2, -⟩ := blk_at hN4 2 rfl
    obtain ⟨n3, -⟩ := blk_at hN4 3 rfl
    obtain ⟨n4, -⟩ := blk_at hN4 4 rfl
    obtain ⟨n5, -⟩ := blk_at hN4 5 rfl
    obtain ⟨n6, -⟩ := blk_at hN4 6 rfl
    obtain ⟨n7, -⟩ := blk_at hN4 7 rfl
    obtain ⟨n8, -⟩ := blk_at hN4 8 rfl
    obtain ⟨y0, g0⟩ := blk_at hZ4 0 rfl
    obtain ⟨y1, g1⟩ := blk_at hZ4 1 rfl
    obtain ⟨y2, g2⟩ := blk_at hZ4 2 rfl
    obtain ⟨y3, g3⟩ := blk_at hZ4 3 rfl
    obtain ⟨y4, g4⟩ := blk_at hZ4 4 rfl
    obtain ⟨y5, g5⟩ := blk_at hZ4 5 rfl
    obtain ⟨y6, g6⟩ := blk_at hZ4 6 rfl
    obtain ⟨y7, g7⟩ := blk_at hZ4 7 rfl
    obtain ⟨y8, g8⟩ := blk_at hZ4 8 rfl
    have HZ4 := Lib.hid hZ4
    clear hN4 hZ4
    go_wp2_with fail
    rw [nine_row HZ4.out]
    refine bodyPost_ret (results_cell_row (by rfl) _ _ (w.heap.size + 1) 30 (ndC k f 0 mx gr (.slice pp pn pc)) (0, 0) _ (by rfl) (setRow_heap _ _ _ _ _ _ HZ4.out) Tryz.underlying30 (by rfl) info30) rfl ?_
    exact ⟨rfl, below_setRow (HX1.out.trans ((HK.out.trans (HB4.out.mono HK.out.size)).mono HX1.out.size)) (by omega) _⟩
end Go.Proofs.YtlhppbendpnkeaaGreatDoor
/- syntax: branch. -/
namespace Go.Proofs.YtlhppbendpnkeaaGreatDoor
set_option linter.unusedSimpArgs false
set_option linter.unusedVariables false
open Go.RowKit

theorem below_grown {w w' : World} (h : w.grownBy w' none) : Below w.heap.size w w' := ⟨h.os, h.tape, h.output, h.size, fun k hk => h.block k hk (by simp)⟩
theorem blk_news {w : World} {b : Nat} {cs : Array Value} {t : TypeId} {fr : Nat × Nat} (h : w.heap[b]? = some (.cells cs t fr)) : ∀ j u, cs.toList[j]? = some u → w.cell? ((⟨b, 0, none⟩ : Addr).add j) = some u := by
  intro j u hj
  rw [Addr.add_mid, Nat.zero_add]
  have : cs[j]? = some u := by simpa using hj
  simp [World.cell?, h, this]
theorem infoN : (Tryz.prog.info? 30).map (fun i => (i.zero, i.size, i.bytes)) = some (some (.agg zeroC), 9, 88) := by kernel_rfl

set_option maxRecDepth 100000 in
set_option maxHeartbeats 3200000 in
theorem branch_any (R M : Nat) (s : ByteArray) (i i1 j : Nat) (x : Bool) (g g1 g2 : Nat) (m : Value) (o o1 o2 : Nat) (k1 : Nat) (f1 : Nat → Bool) (mx1 : Int) (gr1 : Nat) (kk1 : Option (Nat → Bool))
    (k : Nat) (f : Nat → Bool) (mx : Int) (gr : Nat) (kk : Option (Nat → Bool)) (w : World) (hp : Pa w R s i x g m o)
    (hR : R < w.heap.size) (hM : M < w.heap.size) (hi : i < s.size) (hj : j ≤ s.size) (hsz : s.size ≤ 65536)
    (hov : overB x (s.data.toList.drop i) = false) (hend : overB x (s.data.toList.drop j) = true) (h94 : s[i]'hi ≠ 94) (h36 : s[i]'hi ≠ 36)
    (HA : ∀ W, Below w.heap.size w W → Calls Tryz.prog 45 #[.pointer (some ⟨R, 0, none⟩), .bool true] W fun e w' => Pret k1 f1 mx1 gr1 kk1 R M s i1 x g1 m o1 W.heap.size W e w')
    (HR : ∀ lo W pp pn pc, lo ≤ W.heap.size → Kid lo W (.slice pp pn pc) kk1 → Pa W R s i1 x g1 m o1 → R < W.heap.size → Calls Tryz.prog 46 #[.pointer (some ⟨R, 0, none⟩), .agg (ndC k1 f1 0 mx1 gr1 (.slice pp pn pc))] W fun e w' => Pret k f mx gr kk R M s j x g2 m o2 lo W e w') :
    Calls Tryz.prog 32 #[.pointer (some ⟨R, 0, none⟩)] w fun e w' => Pret k f mx gr kk R M s j x g2 m o2 w.heap.size w e w' := by
  obtain ⟨i0, hi0, hz0, hz1, hz2⟩ := info_parts infoN
  have OA : Hid (∀ W, Pa W R s i x g m o → Calls Tryz.prog 43 #[.pointer (some ⟨R, 0, none⟩)] W fun e w' => e = .returned (.bool (overB x (s.data.toList.drop i))) ∧ Below W.heap.size W w') := fun W hW => over_any R s i x g m o W hW (by omega) hsz
  have OB : Hid (∀ W, Pa W R s j x g2 m o2 → Calls Tryz.prog 43 #[.pointer (some ⟨R, 0, none⟩)] W fun e w' => e = .returned (.bool (overB x (s.data.toList.drop j))) ∧ Below W.heap.size W w') := fun W hW => over_any R s j x g2 m o2 W hW hj hsz
  rw [hov] at OA
  rw [hend] at OB
  have z0 : (0 : Int) ≤ (i : Int) := by omega
  have l0 : (i : Int) < (s.size : Int) := by omega
  have l1 : decide ((i : Int) < (s.size : Int)) = true := decide_eq_true l0
  have q1 : (((s[i]'hi).toNat : Int) == 94) = false := by
    have := eq_byte (s[i]'hi) 94
    change ((((s[i]'hi).toNat : Nat) : Int) == 94) = _ at this
    rw [this]; simpa using h94
  have q2 : (((s[i]'hi).toNat : Int) == 36) = false := by
    have := eq_byte (s[i]'hi) 36
    change ((((s[i]'hi).toNat : Nat) : Int) == 36) = _ at this
    rw [this]; simpa using h36
  obtain ⟨W1, hW1⟩ : ∃ W, w.alloc (.cells zeroC 30) = W := ⟨_, rfl⟩
  have HX1 : Hid (Below w.heap.size w W1) := by show Below _ _ _; rw [← hW1]; exact bl_alloc _ _
  have HZ1 : Hid (W1.heap[w.heap.size]? = some (.cells zeroC 30 (0, 0))) := by show _ = _; rw [← hW1]; exact heap_alloc_new _ _
  have HS1 : Hid (W1.heap.size = w.heap.size + 1) := by show _ = _; rw [← hW1]; simp
  have HP1 : Hid (Pa W1 R s i x g m o) := by show Pa _ _ _ _ _ _ _ _; rw [← hW1]; exact hp.to (bl_alloc _ _)
  have HW1 := Lib.hid hW1
  have HA' := Lib.hid HA
  have HR' := Lib.hid HR
  unfold zeroC at HW1
  clear hW1 hp hov hend h94 h36 HA HR
  go_enter Tryz.func32, Tryz.ntmps32
  go_wp2_with fail
  rw [HW1.out]
  refine wp_loop_rounds 2 ?_
  rw [rounds_succ]
  go_wp2_with fail
  refine (OA.out W1 HP1.out).mono ?_
  rintro e w2 ⟨rfl, hb2⟩
  have HB2 := Lib.hid hb2
  have HP2 := Lib.hid (HP1.out.to hb2)
  have C0 : ∀ kb : Bel w2, kb.val.cell? ⟨R, 0, none⟩ = some (.string s) := fun kb => (HP2.out.to kb.below).c0
  have C1 : ∀ kb : Bel w2, kb.val.cell? ⟨R, 1, none⟩ = some (.int .i64 (i : Int)) := fun kb => (HP2.out.to kb.below).c1.1
  clear hb2
  go_wp2_with fail
  refine region_bel w2 (Below.refl _ _) (by kernel_rfl) (by kernel_rfl) ?_
  repeat (go_big_quiet_step (fail))
  refine wpQuiet_nil ?_
  intro kb
  go_wp2_with fail
  refine region_bel w2 kb.below (by kernel_rfl) (by kernel_rfl) ?_
  repeat (go_big_quiet_step (fail))
  refine wpQuiet_nil ?_
  intro kb3
  have HB3 := Lib.hid (bl_to HB2.out kb3.below)
  obtain ⟨w3, hw3⟩ : ∃ W, kb3.val = W := ⟨_, rfl⟩
  rw [hw3] at HB3 ⊢
  clear C0 C1 hw3 kb3 kb
  go_wp2_with fail
  refine (HA'.out w3 (HX1.out.trans (HB3.out.mono HX1.out.size))).mono ?_
  rintro e w4 ⟨v, rfl, hk, hp4, hy4⟩
  obtain ⟨pp, pn, pc, rfl⟩ := hk.shape
  have HY4 : Hid (Ey R M W1 w4) := (Ey.ofBelow HB3.out).trans hy4
  obtain ⟨w5, hw5⟩ : ∃ W, w4.alloc (.cells (ndC k1 f1 0 mx1 gr1 (.slice pp pn pc)) 30) = W := ⟨_, rfl⟩
  have hb5 : Below w4.heap.size w4 w5 := by rw [← hw5]; exact bl_alloc _ _
  have HN5 : Hid (w5.heap[w4.heap.size]? = some (.cells (ndC k1 f1 0 mx1 gr1 (.slice pp pn pc)) 30 (0, 0))) := by show _ = _; rw [← hw5]; exact heap_alloc_new _ _
  have hs5 : w.heap.size + 1 ≤ w3.heap.size := by have := HS1.out; have := HB3.out.size; omega
  have hs6 : w3.heap.size ≤ w4.heap.size := hy4.size
  have hs7 : w4.heap.size ≤ w5.heap.size := hb5.size
  have HC := Lib.hid (HR'.out (w.heap.size + 1) w5 pp pn pc (by omega) ((hk.below hb5).to (by omega) (fun _ _ _ => rfl)) (hp4.to hb5) (by omega))
  have HY5 := Lib.hid (HY4.out.trans (Ey.ofBelow hb5))
  have HW5 := Lib.hid hw5
  clear hk hp4 hy4 hb5 hw5
  unfold ndC at HW5
  have HC1 := HC
  unfold ndC at HC1 ⊢
  go_wp2_with fail
  rw [HW5.out]
  have hN5 := HN5.out
  unfold ndC at hN5
  obtain ⟨n0, -⟩ := blk_at hN5 0 rfl
  obtain ⟨n1, -⟩ := blk_at hN5 1 rfl
  obtain ⟨n2, -⟩ := blk_at hN5 2 rfl
  obtain ⟨n3, -⟩ := blk_at hN5 3 rfl
  obtain ⟨n4, -⟩ := blk_at hN5 4 rfl
  obtain ⟨n5, -⟩ := blk_at hN5 5 rfl
  obtain ⟨n6, -⟩ := blk_at hN5 6 rfl
  obtain ⟨n7, -⟩ := blk_at hN5 7 rfl
  obtain ⟨n8, -⟩ := blk_at hN5 8 rfl
  clear hN5
  go_wp2_with fail
  refine HC1.out.mono ?_
  rintro e w6 ⟨v6, rfl, hk6, hp6, hy6⟩
  obtain ⟨qp, qn, qc, rfl⟩ := hk6.shape
  clear n0 n1 n2 n3 n4 n5 n6 n7 n8 HC1 HC
  have HY6 := Lib.hid (HY5.out.trans hy6)
  have HK6 := Lib.hid hk6
  have HP6 := Lib.hid hp6
  have hs8 : w5.heap.size ≤ w6.heap.size := hy6.size
  obtain ⟨w7, hw7⟩ : ∃ W, w6.alloc (.cells (ndC k f 0 mx gr (.slice qp qn qc)) 30) = W := ⟨_, rfl⟩
  have HB7 : Hid (Below w6.heap.size w6 w7) := by show Below _ _ _; rw [← hw7]; exact bl_alloc _ _
  have HN7 : Hid (w7.heap[w6.heap.size]? = some (.cells (ndC k f 0 mx gr (.slice qp qn qc)) 30 (0, 0))) := by show _ = _; rw [← hw7]; exact heap_alloc_new _ _
  have hs9 : w6.heap.size ≤ w7.heap.size := HB7.out.size
  have HW7 := Lib.hid hw7
  have HWS : Hid (∀ j u, (ndC k f 0 mx gr (.slice qp qn qc)).toList[j]? = some u → w7.cell? ((⟨w6.heap.size, 0, none⟩ : Addr).add j) = some u) := blk_news HN7.out
  have HON : Hid (∀ u ∈ (ndC k f 0 mx gr (.slice qp qn qc)).toList, u.oneCell' = true) := (nd_ndC k f 0 mx gr rfl).one
  clear hk6 hp6 hy6 hw7
  unfold ndC at HW7 HWS HON ⊢
  go_wp2_with (at_builtin; rw [HW7.out]; go_must (refine wpList_append_own _ rfl _ _ 28 rfl w7.heap.size 30 i0 (.agg zeroC) 9 88 Tryz.underlying28 hi0 hz0 hz1 hz2 rfl (by decide) _ _ _ rfl (World.ownsRow_nil _ _ _ _) ⟨w6.heap.size, 0, none⟩ 1 1 _ rfl rfl HWS.out HON.out (by unfold maxLen; omega) (by omega) (Nat.le_refl _) ?_))
  intro v' w8 hown hgrow _
  rcases hown.2 with ⟨_, h0⟩ | ⟨gb, cap, cur, rfl, hbase, hheap, hcap, hmax, hcs, htake⟩
  · omega
  have HB8 : Hid (Below w6.heap.size w6 w8) := bl_to HB7.out (below_grown hgrow)
  have HRG : Hid (w8.rangeAt gb 0 (ndC k f 0 mx gr (.slice qp qn qc)).toList) := by
    intro q u hq
    have h1 := World.ownsRow.cells hown (g := gb) rfl q u (by simpa [ndC] using hq)
    rwa [Addr.add_mid] at h1
  have hg8 : w6.heap.size < gb := by have : w7.heap.size = w6.heap.size + 1 := by rw [← HW7.out]; simp
                                     omega
  clear hown hgrow hheap htake hcs
  unfold ndC at HRG
  have hcl : (1 : Int) ≤ (cap : Int) := by omega
  go_wp2_with fail
  rw [rounds_succ]
  go_wp2_with fail
  refine (OB.out w8 (HP6.out.to HB8.out)).mono ?_
  rintro e w9 ⟨rfl, hb9⟩
  have HB9 := Lib.hid (bl_to HB8.out hb9)
  have HRG9 : Hid (w9.rangeAt gb 0 (ndC k f 0 mx gr (.slice qp qn qc)).toList) := fun q u hq => bl_cell hb9 (HRG.out q u hq)
  have HZ9 : Hid (w9.heap[w.heap.size]? = some (.cells zeroC 30 (0, 0))) := by
    show _ = _
    have h1 := HS1.out
    rw [HB9.out.block _ (by omega), HY6.out.block _ (by omega) (by omega) (by omega)]; exact HZ1.out
  have hst : (storeCells ⟨w.heap.size, 0, none⟩ (ndC k f 0 mx gr (.slice qp qn qc)).toList).run Tryz.prog w9 = .ok () (w9.setRow w.heap.size (ndC k f 0 mx gr (.slice qp qn qc))) := run_node HZ9.out rfl (nd_ndC k f 0 mx gr rfl)
  have hsz9 : (ndC k f 0 mx gr (.slice qp qn qc)).size = 9 := rfl
  clear hb9
  go_wp2_with (refine wpList_load_mid (by rfl) 30 (.tmp 91) (by rfl) gb 0 (by rfl) (ndC k f 0 mx gr (.slice qp qn qc)).toList _ HRG9.out Tryz.underlying30 (by rfl) (by kernel_rfl) ?_)
  refine bodyPost_ret (results_cell_row (by rfl) _ _ w.heap.size 30 (ndC k f 0 mx gr (.slice qp qn qc)) (0, 0) _ (by rfl) (setRow_heap _ _ _ _ _ _ HZ9.out) Tryz.underlying30 (by rfl) info30) rfl ?_
  have hl1 := HS1.out
  exact ⟨_, rfl, (HK6.out.below HB9.out).to (by omega) (fun B hB _ => setRow_other _ _ _ _ (by omega)), (HP6.out.to HB9.out).row (by omega) _, ((Ey.ofBelow HX1.out).trans (HY6.out.trans (Ey.ofBelow HB9.out))).row (Nat.le_refl _) _⟩
end Go.Proofs.YtlhppbendpnkeaaGreatDoor
