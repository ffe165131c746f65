/- syntax: atom at a dot, at a plain byte (printed by genZL.py). -/
import Derived.Test.YtlhppbendpnkeaaGreatDoorZK
namespace Go.Proofs.YtlhppbendpnkeaaGreatDoor
set_option linter.unusedSimpArgs false
set_option linter.unusedVariables false
open Go.RowKit

theorem not_none (W : World) : Calls Tryz.prog 11 #[.agg #[.int .u64 0, .int .u64 0, .int .u64 0, .int .u64 0]] W
    fun e w' => e = .returned (.agg #[.int .u64 (sW (fun c => !noneF c) 0 : Nat), .int .u64 (sW (fun c => !noneF c) 1 : Nat), .int .u64 (sW (fun c => !noneF c) 2 : Nat), .int .u64 (sW (fun c => !noneF c) 3 : Nat)]) ∧ Below W.heap.size W w' := by
  have h := not_words noneF W
  simp only [sW_none] at h
  exact h

set_option maxRecDepth 100000 in
set_option maxHeartbeats 3200000 in
theorem atom_dot (R M : Nat) (s : ByteArray) (i : Nat) (x : Bool) (g : Nat) (m : Value) (o : Nat) (rest : Bs) (fst : Bool) (w : World) (hp : Pa w R s i x g m o)
    (hM : M < w.heap.size) (hsz : s.size ≤ 65536) (hs : s.data.toList.drop i = 46 :: rest) :
    Calls Tryz.prog 45 #[.pointer (some ⟨R, 0, none⟩), .bool fst] w fun e w' => Pret 2 (fun c => !noneF c) 0 0 none R M s (i + 1) x g m o w.heap.size w e w' := by
  obtain ⟨hi, ha, hlen⟩ := get_head hs
  have hR := blk_lt hp
  have hsg : signB x (s.data.toList.drop i) 40 = false := by
    rw [hs]
    cases x with
    | true => rfl
    | false => cases rest <;> rfl
  have SA : Hid (∀ W, Pa W R s i x g m o → Calls Tryz.prog 33 #[.pointer (some ⟨R, 0, none⟩), .int .u8 40] W fun e w' => e = .returned (.bool (signB x (s.data.toList.drop i) 40)) ∧ Below W.heap.size W w') := fun W hW => sign_any R s i x g m o 40 W hW (by omega) hsz
  rw [hsg] at SA
  have q2 : ((s[i]'hi).toNat : Int) = 46 := by rw [ha]; rfl
  clear hsg ha
  have z0 : (0 : Int) ≤ (i : Int) := by omega
  have l0 : (i : Int) < (s.size : Int) := by omega
  have l1 : decide ((i : Int) < (s.size : Int)) = true := decide_eq_true l0
  have y1 : IntKind.i64.wrap ((i : Int) + 1) = (i : Int) + 1 := wrap_in _ (by omega) (by omega)
  obtain ⟨W1, hW1⟩ : ∃ W, w.alloc (.cells zeroC 30) = W := ⟨_, rfl⟩
  have HX1 : Hid (Below w.heap.size w W1) := by show Below _ _ _; rw [← hW1]; exact bl_alloc _ _
  have HZ1 : Hid (W1.heap[w.heap.size]? = some (.cells zeroC 30 (0, 0))) := by show _ = _; rw [← hW1]; exact heap_alloc_new _ _
  have HS1 : Hid (W1.heap.size = w.heap.size + 1) := by show _ = _; rw [← hW1]; simp
  have HP1 : Hid (Pa W1 R s i x g m o) := by show Pa _ _ _ _ _ _ _ _; rw [← hW1]; exact hp.to (bl_alloc _ _)
  have HW1 := Lib.hid hW1
  unfold zeroC at HW1
  have C0 : ∀ kb : Bel W1, kb.val.cell? ⟨R, 0, none⟩ = some (.string s) := fun kb => (HP1.out.to kb.below).c0
  have C1 : ∀ kb : Bel W1, kb.val.cell? ⟨R, 1, none⟩ = some (.int .i64 (i : Int)) := fun kb => (HP1.out.to kb.below).c1.1
  have HI := Lib.hid hi
  clear hW1 hp hs hlen
  go_enter Tryz.func45, Tryz.ntmps45
  go_wp2_with fail
  rw [HW1.out]
  refine region_bel W1 (Below.refl _ _) (by kernel_rfl) (by kernel_rfl) ?_
  repeat (go_big_quiet_step (fail))
  refine wpQuiet_nil ?_
  intro kb
  have HPk := Lib.hid (HP1.out.to kb.below)
  have HBk := Lib.hid kb.below
  obtain ⟨wk, hwk⟩ : ∃ W, kb.val = W := ⟨_, rfl⟩
  rw [hwk] at HPk HBk ⊢
  clear C0 C1 hwk kb
  go_wp2_with fail
  refine (SA.out wk HPk.out).mono ?_
  rintro e w2 ⟨rfl, hb2⟩
  have hp2 := HPk.out.to hb2
  have HP2 := Lib.hid hp2
  have HB2 := Lib.hid (bl_to HBk.out hb2)
  have hR2 := blk_lt hp2
  obtain ⟨c1, f1⟩ := hp2.c1
  have c2 := hp2.c2
  obtain ⟨W6, hW6⟩ : ∃ W, w2.setCell ⟨R, 1, none⟩ (.int .i64 ((i : Int) + 1)) = W := ⟨_, rfl⟩
  have HP6 : Hid (Pa W6 R s (i + 1) x g m o) := by
    have h := hp2.set (i + 1)
    rw [show ((i + 1 : Nat) : Int) = (i : Int) + 1 by omega, hW6] at h
    exact h
  have HX6 : Hid (Ey R M W1 W6) := by
    have h := (Ey.ofBelow (R := R) (M := M) HB2.out).set (o := 1) (v := .int .i64 ((i : Int) + 1))
    rw [hW6] at h
    exact h
  have HSZ6 : Hid (W6.heap.size = w2.heap.size) := by show _ = _; rw [← hW6]; exact World.size_setCell _ _ _
  have HW6 := Lib.hid hW6
  clear hb2 hp2 hW6
  go_wp2_with fail
  rw [HW6.out]
  refine (not_none W6).mono ?_
  rintro e w7 ⟨rfl, hb7⟩
  have HB7 := Lib.hid hb7
  clear hb7
  go_wp2_with fail
  refine (one_words (fun c => !noneF c) w7).mono ?_
  rintro e w8 ⟨rfl, hb8⟩
  have HB8 := Lib.hid (bl_to HB7.out hb8)
  have HZ8 : Hid (w8.heap[w.heap.size]? = some (.cells zeroC 30 (0, 0))) := by
    show _ = _
    have h1 := HX6.out.size
    have h2 := HS1.out
    rw [HB8.out.block _ (by omega), HX6.out.block _ (by omega) (by omega) (by omega)]; exact HZ1.out
  have hst : (storeCells ⟨w.heap.size, 0, none⟩ (ndC 2 (fun c => !noneF c) 0 0 0 (.slice none 0 0)).toList).run Tryz.prog w8 = .ok () (w8.setRow w.heap.size (ndC 2 (fun c => !noneF c) 0 0 0 (.slice none 0 0))) := run_node HZ8.out rfl (nd_ndC 2 _ 0 0 0 rfl)
  have hsz9 : (ndC 2 (fun c => !noneF c) 0 0 0 (.slice none 0 0)).size = 9 := rfl
  clear hb8
  go_wp2_with fail
  refine bodyPost_ret (results_cell_row (by rfl) _ _ w.heap.size 30 (ndC 2 (fun c => !noneF c) 0 0 0 (.slice none 0 0)) (0, 0) _ (by rfl) (setRow_heap _ _ _ _ _ _ HZ8.out) Tryz.underlying30 (by rfl) info30) rfl ?_
  exact ⟨_, rfl, rfl, (HP6.out.to HB8.out).row (by omega) _, ((Ey.ofBelow HX1.out).trans (HX6.out.trans (Ey.ofBelow HB8.out))).row (Nat.le_refl _) _⟩

set_option maxRecDepth 100000 in
set_option maxHeartbeats 3200000 in
theorem atom_plain (R M : Nat) (s : ByteArray) (i : Nat) (x : Bool) (g : Nat) (m : Value) (o : Nat) (c : UInt8) (rest : Bs) (fst : Bool) (w : World) (hp : Pa w R s i x g m o)
    (hM : M < w.heap.size) (hsz : s.size ≤ 65536) (hs : s.data.toList.drop i = c :: rest) (hc1 : c ≠ 91) (hc2 : c ≠ 46) (hc3 : c ≠ 92) (hc4 : c ≠ 42) (hcx : x = true → c ≠ 40 ∧ c ≠ 43 ∧ c ≠ 63 ∧ c ≠ 123) :
    Calls Tryz.prog 45 #[.pointer (some ⟨R, 0, none⟩), .bool fst] w fun e w' => Pret 2 (oneF c.toNat) 0 0 none R M s (i + 1) x g m o w.heap.size w e w' := by
  obtain ⟨hi, ha, hlen⟩ := get_head hs
  have hR := blk_lt hp
  have hsg : signB x (s.data.toList.drop i) 40 = false := by
    rw [hs]
    cases x with
    | true => simpa [signB] using (hcx rfl).1
    | false => cases rest <;> simp [signB, hc3]
  have SA : Hid (∀ W, Pa W R s i x g m o → Calls Tryz.prog 33 #[.pointer (some ⟨R, 0, none⟩), .int .u8 40] W fun e w' => e = .returned (.bool (signB x (s.data.toList.drop i) 40)) ∧ Below W.heap.size W w') := fun W hW => sign_any R s i x g m o 40 W hW (by omega) hsz
  rw [hsg] at SA
  have q1 : ((c.toNat : Int) == 91) = false := (eq_byte c 91).trans (by simpa using hc1)
  have q2 : ((c.toNat : Int) == 46) = false := (eq_byte c 46).trans (by simpa using hc2)
  have q3 : ((c.toNat : Int) == 92) = false := (eq_byte c 92).trans (by simpa using hc3)
  have q4 : ((c.toNat : Int) == 42) = false := (eq_byte c 42).trans (by simpa using hc4)
  have IB : Hid (x = true → ∀ W, Calls Tryz.prog 76 #[.string { data := #[42, 43, 63, 123] }, .int .u8 (c.toNat : Int)] W fun e w' => e = .returned (.int .i64 (-1)) ∧ w' = W) := fun hx W => by
    obtain ⟨_, h1, h2, h3⟩ := hcx hx
    have h := Tryz.strings_IndexByte { data := #[42, 43, 63, 123] } (c.toNat : Int) W
    have e : Lib.indexByte (#[42, 43, 63, 123] : Array UInt8).toList (c.toNat : Int).toNat.toUInt8 = -1 := by
      rw [show (c.toNat : Int).toNat.toUInt8 = c by simp]
      simp [Lib.indexByte, Ne.symm hc4, Ne.symm h1, Ne.symm h2, Ne.symm h3, hc4, h1, h2, h3]
    rw [e] at h
    exact h
  have hcl : c.toNat < 256 := c.toNat_lt
  have ha' : ((s[i]'hi).toNat : Int) = (c.toNat : Int) := by rw [ha]
  clear hsg ha hc1 hc2 hc3 hc4 hcx
  have z0 : (0 : Int) ≤ (i : Int) := by omega
  have l0 : (i : Int) < (s.size : Int) := by omega
  have l1 : decide ((i : Int) < (s.size : Int)) = true := decide_eq_true l0
  have y1 : IntKind.i64.wrap ((i : Int) + 1) = (i : Int) + 1 := wrap_in _ (by omega) (by omega)
  obtain ⟨W1, hW1⟩ : ∃ W, w.alloc (.cells zeroC 30) = W := ⟨_, rfl⟩
  have HX1 : Hid (Below w.heap.size w W1) := by show Below _ _ _; rw [← hW1]; exact bl_alloc _ _
  have HZ1 : Hid (W1.heap[w.heap.size]? = some (.cells zeroC 30 (0, 0))) := by show _ = _; rw [← hW1]; exact heap_alloc_new _ _
  have HS1 : Hid (W1.heap.size = w.heap.size + 1) := by show _ = _; rw [← hW1]; simp
  have HP1 : Hid (Pa W1 R s i x g m o) := by show Pa _ _ _ _ _ _ _ _; rw [← hW1]; exact hp.to (bl_alloc _ _)
  have HW1 := Lib.hid hW1
  unfold zeroC at HW1
  have C0 : ∀ kb : Bel W1, kb.val.cell? ⟨R, 0, none⟩ = some (.string s) := fun kb => (HP1.out.to kb.below).c0
  have C1 : ∀ kb : Bel W1, kb.val.cell? ⟨R, 1, none⟩ = some (.int .i64 (i : Int)) := fun kb => (HP1.out.to kb.below).c1.1
  have HI := Lib.hid hi
  clear hW1 hp hs hlen
  go_enter Tryz.func45, Tryz.ntmps45
  go_wp2_with fail
  rw [HW1.out]
  refine region_bel W1 (Below.refl _ _) (by kernel_rfl) (by kernel_rfl) ?_
  repeat (go_big_quiet_step (fail))
  refine wpQuiet_nil ?_
  intro kb
  have HPk := Lib.hid (HP1.out.to kb.below)
  have HBk := Lib.hid kb.below
  obtain ⟨wk, hwk⟩ : ∃ W, kb.val = W := ⟨_, rfl⟩
  rw [hwk] at HPk HBk ⊢
  clear C0 C1 hwk kb
  go_wp2_with fail
  refine (SA.out wk HPk.out).mono ?_
  rintro e w2 ⟨rfl, hb2⟩
  have hp2 := HPk.out.to hb2
  have HP2 := Lib.hid hp2
  have HB2 := Lib.hid (bl_to HBk.out hb2)
  have hR2 := blk_lt hp2
  obtain ⟨c1, f1⟩ := hp2.c1
  have c2 := hp2.c2
  obtain ⟨W6, hW6⟩ : ∃ W, w2.setCell ⟨R, 1, none⟩ (.int .i64 ((i : Int) + 1)) = W := ⟨_, rfl⟩
  have HP6 : Hid (Pa W6 R s (i + 1) x g m o) := by
    have h := hp2.set (i + 1)
    rw [show ((i + 1 : Nat) : Int) = (i : Int) + 1 by omega, hW6] at h
    exact h
  have HX6 : Hid (Ey R M W1 W6) := by
    have h := (Ey.ofBelow (R := R) (M := M) HB2.out).set (o := 1) (v := .int .i64 ((i : Int) + 1))
    rw [hW6] at h
    exact h
  have HSZ6 : Hid (W6.heap.size = w2.heap.size) := by show _ = _; rw [← hW6]; exact World.size_setCell _ _ _
  have HW6 := Lib.hid hW6
  clear hb2 hp2 hW6
  have hfin : True := trivial
  cases x with
  | true =>
    have IB' := Lib.hid (IB.out rfl)
    clear IB
    go_wp2_with fail
    refine (IB'.out _).mono ?_
    rintro e w3 ⟨rfl, rfl⟩
    go_wp2_with fail
    rw [HW6.out]
    refine (of_one' c.toNat hcl W6 _ HSZ6.out).mono ?_
    rintro e w7 ⟨rfl, hb7⟩
    have HB7 := Lib.hid hb7
    clear hb7
    go_wp2_with fail
    refine (one_words (oneF c.toNat) w7).mono ?_
    rintro e w8 ⟨rfl, hb8⟩
    have HB8 := Lib.hid (bl_to HB7.out hb8)
    have HZ8 : Hid (w8.heap[w.heap.size]? = some (.cells zeroC 30 (0, 0))) := by
      show _ = _
      have h1 := HX6.out.size
      have h2 := HS1.out
      rw [HB8.out.block _ (by omega), HX6.out.block _ (by omega) (by omega) (by omega)]; exact HZ1.out
    have hst : (storeCells ⟨w.heap.size, 0, none⟩ (ndC 2 (oneF c.toNat) 0 0 0 (.slice none 0 0)).toList).run Tryz.prog w8 = .ok () (w8.setRow w.heap.size (ndC 2 (oneF c.toNat) 0 0 0 (.slice none 0 0))) := run_node HZ8.out rfl (nd_ndC 2 _ 0 0 0 rfl)
    have hsz9 : (ndC 2 (oneF c.toNat) 0 0 0 (.slice none 0 0)).size = 9 := rfl
    clear hb8
    go_wp2_with fail
    refine bodyPost_ret (results_cell_row (by rfl) _ _ w.heap.size 30 (ndC 2 (oneF c.toNat) 0 0 0 (.slice none 0 0)) (0, 0) _ (by rfl) (setRow_heap _ _ _ _ _ _ HZ8.out) Tryz.underlying30 (by rfl) info30) rfl ?_
    exact ⟨_, rfl, rfl, (HP6.out.to HB8.out).row (by omega) _, ((Ey.ofBelow HX1.out).trans (HX6.out.trans (Ey.ofBelow HB8.out))).row (Nat.le_refl _) _⟩
  | false =>
    go_wp2_with fail
    rw [HW6.out]
    refine (of_one' c.toNat hcl W6 _ HSZ6.out).mono ?_
    rintro e w7 ⟨rfl, hb7⟩
    have HB7 := Lib.hid hb7
    clear hb7
    go_wp2_with fail
    refine (one_words (oneF c.toNat) w7).mono ?_
    rintro e w8 ⟨rfl, hb8⟩
    have HB8 := Lib.hid (bl_to HB7.out hb8)
    have HZ8 : Hid (w8.heap[w.heap.size]? = some (.cells zeroC 30 (0, 0))) := by
      show _ = _
      have h1 := HX6.out.size
      have h2 := HS1.out
      rw [HB8.out.block _ (by omega), HX6.out.block _ (by omega) (by omega) (by omega)]; exact HZ1.out
    have hst : (storeCells ⟨w.heap.size, 0, none⟩ (ndC 2 (oneF c.toNat) 0 0 0 (.slice none 0 0)).toList).run Tryz.prog w8 = .ok () (w8.setRow w.heap.size (ndC 2 (oneF c.toNat) 0 0 0 (.slice none 0 0))) := run_node HZ8.out rfl (nd_ndC 2 _ 0 0 0 rfl)
    have hsz9 : (ndC 2 (oneF c.toNat) 0 0 0 (.slice none 0 0)).size = 9 := rfl
    clear hb8
    go_wp2_with fail
    refine bodyPost_ret (results_cell_row (by rfl) _ _ w.heap.size 30 (ndC 2 (oneF c.toNat) 0 0 0 (.slice none 0 0)) (0, 0) _ (by rfl) (setRow_heap _ _ _ _ _ _ HZ8.out) Tryz.underlying30 (by rfl) info30) rfl ?_
    exact ⟨_, rfl, rfl, (HP6.out.to HB8.out).row (by omega) _, ((Ey.ofBelow HX1.out).trans (HX6.out.trans (Ey.ofBelow HB8.out))).row (Nat.le_refl _) _⟩

end Go.Proofs.YtlhppbendpnkeaaGreatDoor
