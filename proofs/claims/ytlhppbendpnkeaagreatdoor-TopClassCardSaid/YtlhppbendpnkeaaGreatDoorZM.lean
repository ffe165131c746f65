/- syntax: escape (printed by genZM.py). -/
import Derived.Test.YtlhppbendpnkeaaGreatDoorCE
import Derived.Test.YtlhppbendpnkeaaGreatDoorZL
namespace Go.Proofs.YtlhppbendpnkeaaGreatDoor
set_option linter.unusedSimpArgs false
set_option linter.unusedVariables false
open Go.RowKit

/-- The state of a call of the parser: its result's variable is still zero. -/
structure Es (w : World) (R M : Nat) (s : ByteArray) (i : Nat) (x : Bool) (g : Nat) (m : Value) (o : Nat) (W : World) : Prop where
  zero : W.heap[w.heap.size]? = some (.cells zeroC 30 (0, 0))
  pa : Pa W R s i x g m o
  ey : Ey R M w W
section
variable {w W W' : World} {R M : Nat} {s : ByteArray} {i : Nat} {x : Bool} {g : Nat} {m : Value} {o : Nat}
theorem Es.to (h : Es w R M s i x g m o W) (hb : Below W.heap.size W W') : Es w R M s i x g m o W' :=
  ⟨blk_below h.zero hb (blk_lt h.zero), h.pa.to hb, h.ey.trans (Ey.ofBelow hb)⟩
theorem Es.lt (h : Es w R M s i x g m o W) : w.heap.size < W.heap.size := blk_lt h.zero
theorem Es.row (h : Es w R M s i x g m o W) {b : Nat} (hb : w.heap.size < b) (hR : R < w.heap.size) (cs : Array Value) : Es w R M s i x g m o (W.setRow b cs) :=
  ⟨by rw [setRow_other _ _ _ _ (by omega)]; exact h.zero, h.pa.row (by omega) _, h.ey.row (by omega) _⟩
theorem Es.move (h : Es w R M s i x g m o W) (hR : R < w.heap.size) (j : Nat) : Es w R M s j x g m o (W.setCell ⟨R, 1, none⟩ (.int .i64 (j : Int))) :=
  ⟨by rw [Below.heap_setCell _ _ _ _ (by show w.heap.size ≠ R; omega)]; exact h.zero, h.pa.set j, h.ey.set⟩
/-- The end: the node is laid into the result's variable. -/
theorem Es.fin {j k : Nat} {f : Nat → Bool} {mx : Int} {gr : Nat} {kk : Option (Nat → Bool)} {v : Value} (h : Es w R M s j x g m o W) (hR : R < w.heap.size) {e : Ending} (he : e = .returned (.agg (ndC k f 0 mx gr v))) (hk : Kid (w.heap.size + 1) W v kk) :
    Pret k f mx gr kk R M s j x g m o w.heap.size w e (W.setRow w.heap.size (ndC k f 0 mx gr v)) :=
  ⟨v, he, hk.to (by omega) (fun B hB _ => setRow_other _ _ _ _ (by omega)), h.pa.row (by omega) _, h.ey.row (Nat.le_refl _) _⟩
theorem Es.start (h : Pa w R s i x g m o) : Es w R M s i x g m o (w.alloc (.cells zeroC 30)) :=
  ⟨heap_alloc_new _ _, h.to (bl_alloc _ _), Ey.ofBelow (bl_alloc _ _)⟩
end
theorem of_oneS (c : Nat) (hc : c < 256) (w : World) (n : Nat) (hn : w.heap.size = n) :
    Calls Tryz.prog 77 #[.slice (some ⟨n, 0, none⟩) 1 1] (w.alloc (.cells #[.int .u8 (c : Int)] 5)) fun e w' => e = .returned (.agg (setC (oneF c))) ∧ Below w.heap.size w w' := of_one' c hc w n hn
/-- The signs that stand behind a backslash for themselves. -/
def spcB (x : Bool) (c : UInt8) : Bool := [92, 94, 36, 46, 91, 42].contains c || x && [40, 41, 43, 63, 123, 124].contains c
theorem spec_cases {x : Bool} {c : UInt8} (h : spcB x c = true) : c = 92 ∨ c = 94 ∨ c = 36 ∨ c = 46 ∨ c = 91 ∨ c = 42 ∨ x = true ∧ (c = 40 ∨ c = 41 ∨ c = 43 ∨ c = 63 ∨ c = 123 ∨ c = 124) := by
  simp only [spcB, List.contains_cons, List.contains_nil, Bool.or_false, Bool.or_eq_true, Bool.and_eq_true, beq_iff_eq] at h
  rcases h with h | h
  · rcases h with h | h | h | h | h | h <;> simp [h]
  · exact .inr (.inr (.inr (.inr (.inr (.inr h)))))

set_option maxRecDepth 100000 in
set_option maxHeartbeats 3200000 in
theorem escape_n (R M : Nat) (s : ByteArray) (i : Nat) (x : Bool) (g : Nat) (m : Value) (o : Nat) (rest : Bs) (w : World) (hp : Pa w R s i x g m o)
    (hM : M < w.heap.size) (hsz : s.size ≤ 65536) (hs : s.data.toList.drop i = 92 :: 110 :: rest) :
    Calls Tryz.prog 75 #[.pointer (some ⟨R, 0, none⟩)] w fun e w' => Pret 2 (oneF 10) 0 0 none R M s (i + 2) x g m o w.heap.size w e w' := by
  obtain ⟨hi, ha, hlen⟩ := get_head hs
  have hR := blk_lt hp
  have hs1 : s.data.toList.drop (i + 1) = 110 :: rest := by
    have := congrArg List.tail hs
    rwa [List.tail_drop] at this
  obtain ⟨hi1, ha1, hlen1⟩ := get_head hs1
  have q0 : ((s[i + 1]'hi1).toNat : Int) = 110 := by rw [ha1]; rfl
  have HC1 : Hid (∀ W n, W.heap.size = n → Calls Tryz.prog 77 #[.slice (some ⟨n, 0, none⟩) 1 1] (W.alloc (.cells #[.int .u8 110] 5)) fun e w' => e = .returned (.agg (setC (oneF 110))) ∧ Below W.heap.size W w') := fun W n hn => of_oneS 110 (by decide) W n hn
  have HC2 : Hid (∀ W n, W.heap.size = n → Calls Tryz.prog 77 #[.slice (some ⟨n, 0, none⟩) 1 1] (W.alloc (.cells #[.int .u8 10] 5)) fun e w' => e = .returned (.agg (setC (oneF 10))) ∧ Below W.heap.size W w') := fun W n hn => of_oneS 10 (by decide) W n hn
  have HCL : Hid (∀ t W, Calls Tryz.prog 94 #[.string t] W fun e w' => ClassP t e ∧ Below W.heap.size W w') := fun t W => Class_any t W
  have z0 : (0 : Int) ≤ (i : Int) := by omega
  have z1 : (0 : Int) ≤ (i : Int) + 1 := by omega
  have l0 : (i : Int) + 1 < (s.size : Int) := by omega
  have l1 : ¬ (s.size : Int) ≤ (i : Int) + 1 := by omega
  have l2 : decide ((s.size : Int) ≤ (i : Int) + 1) = false := decide_eq_false l1
  have y1 : IntKind.i64.wrap ((i : Int) + 1) = (i : Int) + 1 := wrap_in _ (by omega) (by omega)
  have y2 : IntKind.i64.wrap ((i : Int) + 1 + 1) = (i : Int) + 1 + 1 := wrap_in _ (by omega) (by omega)
  obtain ⟨W1, hW1⟩ : ∃ W, w.alloc (.cells zeroC 30) = W := ⟨_, rfl⟩
  have HE1 : Hid (Es w R M s i x g m o W1) := by
    have h : Es w R M s i x g m o (w.alloc (.cells zeroC 30)) := Es.start hp
    rw [hW1] at h; exact h
  have HW1 := Lib.hid hW1
  unfold zeroC at HW1
  obtain ⟨c1, f1⟩ := HE1.out.pa.c1
  rw [← HW1.out] at c1 f1
  obtain ⟨W2, hW2⟩ : ∃ W, (w.setCell ⟨R, 1, none⟩ (.int .i64 ((i : Int) + 1))).alloc (.cells zeroC 30) = W := ⟨_, rfl⟩
  have HE2 : Hid (Es w R M s (i + 1) x g m o W2) := by
    have h1 := heap_alloc_new (w.setCell ⟨R, 1, none⟩ (.int .i64 ((i : Int) + 1))) (.cells zeroC 30)
    rw [World.size_setCell] at h1
    have h2 := (hp.set (i + 1)).to (bl_alloc _ (.cells zeroC 30))
    rw [show ((i + 1 : Nat) : Int) = (i : Int) + 1 by omega] at h2
    rw [← hW2]
    exact ⟨h1, h2, ((Ey.ofBelow (R := R) (M := M) (Below.refl _ w)).set).trans (Ey.ofBelow (bl_alloc _ _))⟩
  unfold zeroC at hW2
  have HW2 := Lib.hid hW2
  have C0 : ∀ kb : Bel W2, kb.val.cell? ⟨R, 0, none⟩ = some (.string s) := fun kb => (HE2.out.pa.to kb.below).c0
  have C1 : ∀ kb : Bel W2, kb.val.cell? ⟨R, 1, none⟩ = some (.int .i64 ((i : Int) + 1)) := fun kb => by
    have := (HE2.out.pa.to kb.below).c1.1
    rwa [show ((i + 1 : Nat) : Int) = (i : Int) + 1 by omega] at this
  clear hW1 hW2 hp hs hs1 hlen hlen1 ha ha1 hi
  go_enter Tryz.func75, Tryz.ntmps75
  go_wp2_with fail
  rw [HW2.out]
  refine region_bel W2 (Below.refl _ _) (by kernel_rfl) (by kernel_rfl) ?_
  repeat (go_big_quiet_step (fail))
  refine wpQuiet_nil ?_
  intro kb
  go_wp2_with fail
  refine region_bel W2 kb.below (by kernel_rfl) (by kernel_rfl) ?_
  repeat (go_big_quiet_step (fail))
  refine wpQuiet_nil ?_
  intro kb3
  have HE3 := Lib.hid (HE2.out.to kb3.below)
  obtain ⟨w3, hw3⟩ : ∃ W, kb3.val = W := ⟨_, rfl⟩
  rw [hw3] at HE3 ⊢
  clear C0 C1 c1 f1 hw3 kb3 kb
  go_wp2_with fail
  refine (HCL.out _ w3).mono ?_
  rintro e w4 ⟨⟨fa, ba, rfl, -⟩, hb4⟩
  have HE4 := Lib.hid (HE3.out.to hb4)
  obtain ⟨W5, hb5, hs5, k5, e5⟩ := one_set w4 fa
  have HE5 := Lib.hid (HE4.out.to hb5)
  have zfa : (setC fa).size = 4 := rfl
  clear hb4 hb5 hs5 k5
  go_wp2_with fail
  refine (HC1.out W5 _ rfl).mono ?_
  rintro e w6 ⟨rfl, hb6⟩
  have HE6 := Lib.hid (HE5.out.to hb6)
  obtain ⟨W7, hb7, hs7, k7, e7⟩ := one_set w6 (oneF 110)
  have HE7 := Lib.hid (HE6.out.to hb7)
  have K7 := Lib.hid k7
  have zcf : (setC (oneF 110)).size = 4 := rfl
  have hl6 := HE6.out.lt
  clear hb6 hb7 hs7 k7 e5
  go_wp2_with fail
  refine (HCL.out _ W7).mono ?_
  rintro e w8 ⟨⟨fb, bb, rfl, hal⟩, hb8⟩
  have HE8 := Lib.hid (HE7.out.to hb8)
  have K8 := Lib.hid (blk_below K7.out hb8 (blk_lt K7.out))
  obtain ⟨W9, hb9, hs9, k9, e9⟩ := one_set w8 fb
  have HE9 := Lib.hid (HE8.out.to hb9)
  have K9 := Lib.hid (blk_below K8.out hb9 (blk_lt K8.out))
  have KB := Lib.hid k9
  have zfb : (setC fb).size = 4 := rfl
  have HALB := Lib.hid (hal rfl)
  have hl8 := HE8.out.lt
  clear hb8 hb9 hs9 k9 e7 hal K7 K8
  go_wp2_with fail
  refine (HC2.out W9 _ rfl).mono ?_
  rintro e wa ⟨rfl, hba⟩
  have HEa := Lib.hid (HE9.out.to hba)
  have Ka : Hid (wa.heap[w6.heap.size]? = some (.cells (setC (oneF 110)) 24 (0, 0))) := blk_below K9.out hba (blk_lt K9.out)
  have est : (storeCells ⟨w6.heap.size, 0, none⟩ (setC (oneF 10)).toList).run Tryz.prog wa = .ok () (wa.setRow w6.heap.size (setC (oneF 10))) := run_set (oneF 10) Ka.out rfl
  obtain ⟨w10, hw10⟩ : ∃ W, wa.setRow w6.heap.size (setC (oneF 10)) = W := ⟨_, rfl⟩
  have HE10 : Hid (Es w R M s (i + 1) x g m o w10) := by
    have h := HEa.out.row (b := w6.heap.size) hl6 hR (setC (oneF 10))
    rw [hw10] at h; exact h
  have K10 : Hid (w10.heap[w6.heap.size]? = some (.cells (setC (oneF 10)) 24 (0, 0))) := by
    show _ = _
    rw [← hw10]; exact setRow_heap _ _ _ _ _ _ Ka.out
  rw [hw10] at est
  have zc10 : (setC (oneF 10)).size = 4 := rfl
  clear hba hw10 e9
  obtain ⟨c1, f1⟩ := HE10.out.pa.c1
  obtain ⟨W11, hW11⟩ : ∃ W, w10.setCell ⟨R, 1, none⟩ (.int .i64 ((i : Int) + 1 + 1)) = W := ⟨_, rfl⟩
  have HE11 : Hid (Es w R M s (i + 2) x g m o W11) := by
    have h := HE10.out.move hR (i + 2)
    rw [show ((i + 2 : Nat) : Int) = (i : Int) + 1 + 1 by omega, hW11] at h
    exact h
  have K11 : Hid (W11.heap[w6.heap.size]? = some (.cells (setC (oneF 10)) 24 (0, 0))) := by
    show _ = _
    rw [← hW11, Below.heap_setCell _ _ _ _ (by show w6.heap.size ≠ R; omega)]; exact K10.out
  have HW11 := Lib.hid hW11
  have HON : Hid (∀ W, Calls Tryz.prog 74 #[.agg (setC (oneF 10))] W fun e w' => e = .returned (.agg (ndC 2 (oneF 10) 0 0 0 (.slice none 0 0))) ∧ Below W.heap.size W w') := fun W => one_any _ W
  rw [show ((i + 1 : Nat) : Int) = (i : Int) + 1 by omega] at c1
  have hcv : True := trivial
  clear hW11
  have KW := Lib.hid (HW11.out ▸ K11.out)
  go_wp2_with (refine wpList_load_row (by rfl) 24 (.tmp 6) (by rfl) w6.heap.size (by rfl) 24 _ (0, 0) _ KW.out Tryz.underlying24 (by rfl) info24 ?_)
  rw [HW11.out]
  refine (HON.out W11).mono ?_
  rintro e w12 ⟨rfl, hb12⟩
  have HE12 := Lib.hid (HE11.out.to hb12)
  have hst : (storeCells ⟨w.heap.size, 0, none⟩ (ndC 2 (oneF 10) 0 0 0 (.slice none 0 0)).toList).run Tryz.prog w12 = .ok () (w12.setRow w.heap.size (ndC 2 (oneF 10) 0 0 0 (.slice none 0 0))) := run_node HE12.out.zero rfl (nd_ndC 2 _ 0 0 0 rfl)
  have hsz9 : (ndC 2 (oneF 10) 0 0 0 (.slice none 0 0)).size = 9 := rfl
  clear hb12
  go_wp2_with fail
  refine bodyPost_ret (results_cell_row (by rfl) _ _ w.heap.size 30 (ndC 2 (oneF 10) 0 0 0 (.slice none 0 0)) (0, 0) _ (by rfl) (setRow_heap _ _ _ _ _ _ HE12.out.zero) Tryz.underlying30 (by rfl) info30) rfl ?_
  exact HE12.out.fin hR rfl rfl

set_option maxRecDepth 100000 in
set_option maxHeartbeats 3200000 in
theorem escape_spec (R M : Nat) (s : ByteArray) (i : Nat) (x : Bool) (g : Nat) (m : Value) (o : Nat) (c : UInt8) (rest : Bs) (w : World) (hp : Pa w R s i x g m o)
    (hM : M < w.heap.size) (hsz : s.size ≤ 65536) (hs : s.data.toList.drop i = 92 :: c :: rest) (hsp : spcB x c = true) :
    Calls Tryz.prog 75 #[.pointer (some ⟨R, 0, none⟩)] w fun e w' => Pret 2 (oneF c.toNat) 0 0 none R M s (i + 2) x g m o w.heap.size w e w' := by
  obtain ⟨hi, ha, hlen⟩ := get_head hs
  have hR := blk_lt hp
  have hs1 : s.data.toList.drop (i + 1) = c :: rest := by
    have := congrArg List.tail hs
    rwa [List.tail_drop] at this
  obtain ⟨hi1, ha1, hlen1⟩ := get_head hs1
  have q0 : ((s[i + 1]'hi1).toNat : Int) = (c.toNat : Int) := by rw [ha1]
  have hc := spec_cases hsp
  have q1 : ((c.toNat : Int) == 110) = false := (eq_byte c 110).trans (by rcases hc with rfl | rfl | rfl | rfl | rfl | rfl | ⟨_, rfl | rfl | rfl | rfl | rfl | rfl⟩ <;> rfl)
  have q2 : ((c.toNat : Int) == 116) = false := (eq_byte c 116).trans (by rcases hc with rfl | rfl | rfl | rfl | rfl | rfl | ⟨_, rfl | rfl | rfl | rfl | rfl | rfl⟩ <;> rfl)
  have q3 : ((c.toNat : Int) == 119) = false := (eq_byte c 119).trans (by rcases hc with rfl | rfl | rfl | rfl | rfl | rfl | ⟨_, rfl | rfl | rfl | rfl | rfl | rfl⟩ <;> rfl)
  have q4 : ((c.toNat : Int) == 87) = false := (eq_byte c 87).trans (by rcases hc with rfl | rfl | rfl | rfl | rfl | rfl | ⟨_, rfl | rfl | rfl | rfl | rfl | rfl⟩ <;> rfl)
  have q5 : ((c.toNat : Int) == 115) = false := (eq_byte c 115).trans (by rcases hc with rfl | rfl | rfl | rfl | rfl | rfl | ⟨_, rfl | rfl | rfl | rfl | rfl | rfl⟩ <;> rfl)
  have q6 : ((c.toNat : Int) == 83) = false := (eq_byte c 83).trans (by rcases hc with rfl | rfl | rfl | rfl | rfl | rfl | ⟨_, rfl | rfl | rfl | rfl | rfl | rfl⟩ <;> rfl)
  have HAL : Hid (alF c.toNat = false) := by
    show _ = _
    rcases hc with rfl | rfl | rfl | rfl | rfl | rfl | ⟨_, rfl | rfl | rfl | rfl | rfl | rfl⟩ <;> decide
  have HDG : Hid ((c.toNat : Int) < 49 ∨ (49 : Int) ≤ (c.toNat : Int) ∧ (57 : Int) < (c.toNat : Int)) := by
    show _ ∨ _
    rcases hc with rfl | rfl | rfl | rfl | rfl | rfl | ⟨_, rfl | rfl | rfl | rfl | rfl | rfl⟩ <;> decide
  have hcl : c.toNat < 256 := c.toNat_lt
  have HC1 : Hid (∀ W n, W.heap.size = n → Calls Tryz.prog 77 #[.slice (some ⟨n, 0, none⟩) 1 1] (W.alloc (.cells #[.int .u8 (c.toNat : Int)] 5)) fun e w' => e = .returned (.agg (setC (oneF c.toNat))) ∧ Below W.heap.size W w') := fun W n hn => of_oneS c.toNat hcl W n hn
  have IB : Hid (x = false → ∀ W, Calls Tryz.prog 76 #[.string { data := #[40, 41, 123, 125, 124, 43, 63] }, .int .u8 (c.toNat : Int)] W fun e w' => e = .returned (.int .i64 (-1)) ∧ w' = W) := fun hx W => by
    have h := Tryz.strings_IndexByte { data := #[40, 41, 123, 125, 124, 43, 63] } (c.toNat : Int) W
    have e : Lib.indexByte (#[40, 41, 123, 125, 124, 43, 63] : Array UInt8).toList (c.toNat : Int).toNat.toUInt8 = -1 := by
      rw [show (c.toNat : Int).toNat.toUInt8 = c by simp]
      rcases hc with rfl | rfl | rfl | rfl | rfl | rfl | ⟨h, _⟩
      all_goals first | decide | (rw [hx] at h; cases h)
    rw [e] at h
    exact h
  clear hc hsp
  have HCL : Hid (∀ t W, Calls Tryz.prog 94 #[.string t] W fun e w' => ClassP t e ∧ Below W.heap.size W w') := fun t W => Class_any t W
  have z0 : (0 : Int) ≤ (i : Int) := by omega
  have z1 : (0 : Int) ≤ (i : Int) + 1 := by omega
  have l0 : (i : Int) + 1 < (s.size : Int) := by omega
  have l1 : ¬ (s.size : Int) ≤ (i : Int) + 1 := by omega
  have l2 : decide ((s.size : Int) ≤ (i : Int) + 1) = false := decide_eq_false l1
  have y1 : IntKind.i64.wrap ((i : Int) + 1) = (i : Int) + 1 := wrap_in _ (by omega) (by omega)
  have y2 : IntKind.i64.wrap ((i : Int) + 1 + 1) = (i : Int) + 1 + 1 := wrap_in _ (by omega) (by omega)
  obtain ⟨W1, hW1⟩ : ∃ W, w.alloc (.cells zeroC 30) = W := ⟨_, rfl⟩
  have HE1 : Hid (Es w R M s i x g m o W1) := by
    have h : Es w R M s i x g m o (w.alloc (.cells zeroC 30)) := Es.start hp
    rw [hW1] at h; exact h
  have HW1 := Lib.hid hW1
  unfold zeroC at HW1
  obtain ⟨c1, f1⟩ := HE1.out.pa.c1
  rw [← HW1.out] at c1 f1
  obtain ⟨W2, hW2⟩ : ∃ W, (w.setCell ⟨R, 1, none⟩ (.int .i64 ((i : Int) + 1))).alloc (.cells zeroC 30) = W := ⟨_, rfl⟩
  have HE2 : Hid (Es w R M s (i + 1) x g m o W2) := by
    have h1 := heap_alloc_new (w.setCell ⟨R, 1, none⟩ (.int .i64 ((i : Int) + 1))) (.cells zeroC 30)
    rw [World.size_setCell] at h1
    have h2 := (hp.set (i + 1)).to (bl_alloc _ (.cells zeroC 30))
    rw [show ((i + 1 : Nat) : Int) = (i : Int) + 1 by omega] at h2
    rw [← hW2]
    exact ⟨h1, h2, ((Ey.ofBelow (R := R) (M := M) (Below.refl _ w)).set).trans (Ey.ofBelow (bl_alloc _ _))⟩
  unfold zeroC at hW2
  have HW2 := Lib.hid hW2
  have C0 : ∀ kb : Bel W2, kb.val.cell? ⟨R, 0, none⟩ = some (.string s) := fun kb => (HE2.out.pa.to kb.below).c0
  have C1 : ∀ kb : Bel W2, kb.val.cell? ⟨R, 1, none⟩ = some (.int .i64 ((i : Int) + 1)) := fun kb => by
    have := (HE2.out.pa.to kb.below).c1.1
    rwa [show ((i + 1 : Nat) : Int) = (i : Int) + 1 by omega] at this
  clear hW1 hW2 hp hs hs1 hlen hlen1 ha ha1 hi
  go_enter Tryz.func75, Tryz.ntmps75
  go_wp2_with fail
  rw [HW2.out]
  refine region_bel W2 (Below.refl _ _) (by kernel_rfl) (by kernel_rfl) ?_
  repeat (go_big_quiet_step (fail))
  refine wpQuiet_nil ?_
  intro kb
  go_wp2_with fail
  refine region_bel W2 kb.below (by kernel_rfl) (by kernel_rfl) ?_
  repeat (go_big_quiet_step (fail))
  refine wpQuiet_nil ?_
  intro kb3
  have HE3 := Lib.hid (HE2.out.to kb3.below)
  obtain ⟨w3, hw3⟩ : ∃ W, kb3.val = W := ⟨_, rfl⟩
  rw [hw3] at HE3 ⊢
  clear C0 C1 c1 f1 hw3 kb3 kb
  go_wp2_with fail
  refine (HCL.out _ w3).mono ?_
  rintro e w4 ⟨⟨fa, ba, rfl, -⟩, hb4⟩
  have HE4 := Lib.hid (HE3.out.to hb4)
  obtain ⟨W5, hb5, hs5, k5, e5⟩ := one_set w4 fa
  have HE5 := Lib.hid (HE4.out.to hb5)
  have zfa : (setC fa).size = 4 := rfl
  clear hb4 hb5 hs5 k5
  go_wp2_with fail
  refine (HC1.out W5 _ rfl).mono ?_
  rintro e w6 ⟨rfl, hb6⟩
  have HE6 := Lib.hid (HE5.out.to hb6)
  obtain ⟨W7, hb7, hs7, k7, e7⟩ := one_set w6 (oneF c.toNat)
  have HE7 := Lib.hid (HE6.out.to hb7)
  have K7 := Lib.hid k7
  have zcf : (setC (oneF c.toNat)).size = 4 := rfl
  have hl6 := HE6.out.lt
  clear hb6 hb7 hs7 k7 e5
  go_wp2_with fail
  refine (HCL.out _ W7).mono ?_
  rintro e w8 ⟨⟨fb, bb, rfl, hal⟩, hb8⟩
  have HE8 := Lib.hid (HE7.out.to hb8)
  have K8 := Lib.hid (blk_below K7.out hb8 (blk_lt K7.out))
  obtain ⟨W9, hb9, hs9, k9, e9⟩ := one_set w8 fb
  have HE9 := Lib.hid (HE8.out.to hb9)
  have K9 := Lib.hid (blk_below K8.out hb9 (blk_lt K8.out))
  have KB := Lib.hid k9
  have zfb : (setC fb).size = 4 := rfl
  have HALB := Lib.hid (hal rfl)
  have hl8 := HE8.out.lt
  clear hb8 hb9 hs9 k9 e7 hal K7 K8
  have HHS : Hid (∀ W, Calls Tryz.prog 31 #[.agg (setC fb), .int .u8 (c.toNat : Int)] W fun e w' => e = .returned (.bool false) ∧ Below W.heap.size W w') := fun W => by
    have h := Has_any fb c.toNat hcl W
    have e : fb c.toNat = false := by
      cases hf : fb c.toNat with
      | false => rfl
      | true => exact absurd (HALB.out _ hcl hf) (by rw [HAL.out]; decide)
    rw [e] at h
    exact h
  have hdig : True := trivial
  rcases HDG.out with hd | ⟨hd1, hd2⟩
  · have hd1 : ¬ (49 : Int) ≤ (c.toNat : Int) := by omega
    have hd3 : decide ((49 : Int) ≤ (c.toNat : Int)) = false := decide_eq_false hd1
    go_wp2_with (refine wpList_load_row (by rfl) 24 (.tmp 7) (by rfl) w8.heap.size (by rfl) 24 _ (0, 0) _ KB.out Tryz.underlying24 (by rfl) info24 ?_)
    refine (HHS.out W9).mono ?_
    rintro e w10 ⟨rfl, hb10⟩
    have HE10 := Lib.hid (HE9.out.to hb10)
    have K10 := Lib.hid (blk_below K9.out hb10 (blk_lt K9.out))
    have c2 := HE10.out.pa.c2
    clear hb10 e9
    cases x with
    | true =>
      obtain ⟨c1, f1⟩ := HE10.out.pa.c1
      obtain ⟨W11, hW11⟩ : ∃ W, w10.setCell ⟨R, 1, none⟩ (.int .i64 ((i : Int) + 1 + 1)) = W := ⟨_, rfl⟩
      have HE11 : Hid (Es w R M s (i + 2) true g m o W11) := by
        have h := HE10.out.move hR (i + 2)
        rw [show ((i + 2 : Nat) : Int) = (i : Int) + 1 + 1 by omega, hW11] at h
        exact h
      have K11 : Hid (W11.heap[w6.heap.size]? = some (.cells (setC (oneF c.toNat)) 24 (0, 0))) := by
        show _ = _
        rw [← hW11, Below.heap_setCell _ _ _ _ (by show w6.heap.size ≠ R; omega)]; exact K10.out
      have HW11 := Lib.hid hW11
      have HON : Hid (∀ W, Calls Tryz.prog 74 #[.agg (setC (oneF c.toNat))] W fun e w' => e = .returned (.agg (ndC 2 (oneF c.toNat) 0 0 0 (.slice none 0 0))) ∧ Below W.heap.size W w') := fun W => one_any _ W
      rw [show ((i + 1 : Nat) : Int) = (i : Int) + 1 by omega] at c1
      have hcv : True := trivial
      clear hW11
      have KW := Lib.hid (HW11.out ▸ K11.out)
      go_wp2_with (refine wpList_load_row (by rfl) 24 (.tmp 6) (by rfl) w6.heap.size (by rfl) 24 _ (0, 0) _ KW.out Tryz.underlying24 (by rfl) info24 ?_)
      rw [HW11.out]
      refine (HON.out W11).mono ?_
      rintro e w12 ⟨rfl, hb12⟩
      have HE12 := Lib.hid (HE11.out.to hb12)
      have hst : (storeCells ⟨w.heap.size, 0, none⟩ (ndC 2 (oneF c.toNat) 0 0 0 (.slice none 0 0)).toList).run Tryz.prog w12 = .ok () (w12.setRow w.heap.size (ndC 2 (oneF c.toNat) 0 0 0 (.slice none 0 0))) := run_node HE12.out.zero rfl (nd_ndC 2 _ 0 0 0 rfl)
      have hsz9 : (ndC 2 (oneF c.toNat) 0 0 0 (.slice none 0 0)).size = 9 := rfl
      clear hb12
      go_wp2_with fail
      refine bodyPost_ret (results_cell_row (by rfl) _ _ w.heap.size 30 (ndC 2 (oneF c.toNat) 0 0 0 (.slice none 0 0)) (0, 0) _ (by rfl) (setRow_heap _ _ _ _ _ _ HE12.out.zero) Tryz.underlying30 (by rfl) info30) rfl ?_
      exact HE12.out.fin hR rfl rfl
    | false =>
      have IB' := Lib.hid (IB.out rfl)
      go_wp2_with fail
      refine (IB'.out _).mono ?_
      rintro e w10' ⟨rfl, rfl⟩
      obtain ⟨c1, f1⟩ := HE10.out.pa.c1
      obtain ⟨W11, hW11⟩ : ∃ W, w10'.setCell ⟨R, 1, none⟩ (.int .i64 ((i : Int) + 1 + 1)) = W := ⟨_, rfl⟩
      have HE11 : Hid (Es w R M s (i + 2) false g m o W11) := by
        have h := HE10.out.move hR (i + 2)
        rw [show ((i + 2 : Nat) : Int) = (i : Int) + 1 + 1 by omega, hW11] at h
        exact h
      have K11 : Hid (W11.heap[w6.heap.size]? = some (.cells (setC (oneF c.toNat)) 24 (0, 0))) := by
        show _ = _
        rw [← hW11, Below.heap_setCell _ _ _ _ (by show w6.heap.size ≠ R; omega)]; exact K10.out
      have HW11 := Lib.hid hW11
      have HON : Hid (∀ W, Calls Tryz.prog 74 #[.agg (setC (oneF c.toNat))] W fun e w' => e = .returned (.agg (ndC 2 (oneF c.toNat) 0 0 0 (.slice none 0 0))) ∧ Below W.heap.size W w') := fun W => one_any _ W
      rw [show ((i + 1 : Nat) : Int) = (i : Int) + 1 by omega] at c1
      have hcv : True := trivial
      clear hW11
      have KW := Lib.hid (HW11.out ▸ K11.out)
      go_wp2_with (refine wpList_load_row (by rfl) 24 (.tmp 6) (by rfl) w6.heap.size (by rfl) 24 _ (0, 0) _ KW.out Tryz.underlying24 (by rfl) info24 ?_)
      rw [HW11.out]
      refine (HON.out W11).mono ?_
      rintro e w12 ⟨rfl, hb12⟩
      have HE12 := Lib.hid (HE11.out.to hb12)
      have hst : (storeCells ⟨w.heap.size, 0, none⟩ (ndC 2 (oneF c.toNat) 0 0 0 (.slice none 0 0)).toList).run Tryz.prog w12 = .ok () (w12.setRow w.heap.size (ndC 2 (oneF c.toNat) 0 0 0 (.slice none 0 0))) := run_node HE12.out.zero rfl (nd_ndC 2 _ 0 0 0 rfl)
      have hsz9 : (ndC 2 (oneF c.toNat) 0 0 0 (.slice none 0 0)).size = 9 := rfl
      clear hb12
      go_wp2_with fail
      refine bodyPost_ret (results_cell_row (by rfl) _ _ w.heap.size 30 (ndC 2 (oneF c.toNat) 0 0 0 (.slice none 0 0)) (0, 0) _ (by rfl) (setRow_heap _ _ _ _ _ _ HE12.out.zero) Tryz.underlying30 (by rfl) info30) rfl ?_
      exact HE12.out.fin hR rfl rfl
  · have hd3 : decide ((49 : Int) ≤ (c.toNat : Int)) = true := decide_eq_true hd1
    have hd5 : ¬ (c.toNat : Int) ≤ 57 := by omega
    have hd4 : decide ((c.toNat : Int) ≤ 57) = false := decide_eq_false hd5
    go_wp2_with (refine wpList_load_row (by rfl) 24 (.tmp 7) (by rfl) w8.heap.size (by rfl) 24 _ (0, 0) _ KB.out Tryz.underlying24 (by rfl) info24 ?_)
    refine (HHS.out W9).mono ?_
    rintro e w10 ⟨rfl, hb10⟩
    have HE10 := Lib.hid (HE9.out.to hb10)
    have K10 := Lib.hid (blk_below K9.out hb10 (blk_lt K9.out))
    have c2 := HE10.out.pa.c2
    clear hb10 e9
    cases x with
    | true =>
      obtain ⟨c1, f1⟩ := HE10.out.pa.c1
      obtain ⟨W11, hW11⟩ : ∃ W, w10.setCell ⟨R, 1, none⟩ (.int .i64 ((i : Int) + 1 + 1)) = W := ⟨_, rfl⟩
      have HE11 : Hid (Es w R M s (i + 2) true g m o W11) := by
        have h := HE10.out.move hR (i + 2)
        rw [show ((i + 2 : Nat) : Int) = (i : Int) + 1 + 1 by omega, hW11] at h
        exact h
      have K11 : Hid (W11.heap[w6.heap.size]? = some (.cells (setC (oneF c.toNat)) 24 (0, 0))) := by
        show _ = _
        rw [← hW11, Below.heap_setCell _ _ _ _ (by show w6.heap.size ≠ R; omega)]; exact K10.out
      have HW11 := Lib.hid hW11
      have HON : Hid (∀ W, Calls Tryz.prog 74 #[.agg (setC (oneF c.toNat))] W fun e w' => e = .returned (.agg (ndC 2 (oneF c.toNat) 0 0 0 (.slice none 0 0))) ∧ Below W.heap.size W w') := fun W => one_any _ W
      rw [show ((i + 1 : Nat) : Int) = (i : Int) + 1 by omega] at c1
      have hcv : True := trivial
      clear hW11
      have KW := Lib.hid (HW11.out ▸ K11.out)
      go_wp2_with (refine wpList_load_row (by rfl) 24 (.tmp 6) (by rfl) w6.heap.size (by rfl) 24 _ (0, 0) _ KW.out Tryz.underlying24 (by rfl) info24 ?_)
      rw [HW11.out]
      refine (HON.out W11).mono ?_
      rintro e w12 ⟨rfl, hb12⟩
      have HE12 := Lib.hid (HE11.out.to hb12)
      have hst : (storeCells ⟨w.heap.size, 0, none⟩ (ndC 2 (oneF c.toNat) 0 0 0 (.slice none 0 0)).toList).run Tryz.prog w12 = .ok () (w12.setRow w.heap.size (ndC 2 (oneF c.toNat) 0 0 0 (.slice none 0 0))) := run_node HE12.out.zero rfl (nd_ndC 2 _ 0 0 0 rfl)
      have hsz9 : (ndC 2 (oneF c.toNat) 0 0 0 (.slice none 0 0)).size = 9 := rfl
      clear hb12
      go_wp2_with fail
      refine bodyPost_ret (results_cell_row (by rfl) _ _ w.heap.size 30 (ndC 2 (oneF c.toNat) 0 0 0 (.slice none 0 0)) (0, 0) _ (by rfl) (setRow_heap _ _ _ _ _ _ HE12.out.zero) Tryz.underlying30 (by rfl) info30) rfl ?_
      exact HE12.out.fin hR rfl rfl
    | false =>
      have IB' := Lib.hid (IB.out rfl)
      go_wp2_with fail
      refine (IB'.out _).mono ?_
      rintro e w10' ⟨rfl, rfl⟩
      obtain ⟨c1, f1⟩ := HE10.out.pa.c1
      obtain ⟨W11, hW11⟩ : ∃ W, w10'.setCell ⟨R, 1, none⟩ (.int .i64 ((i : Int) + 1 + 1)) = W := ⟨_, rfl⟩
      have HE11 : Hid (Es w R M s (i + 2) false g m o W11) := by
        have h := HE10.out.move hR (i + 2)
        rw [show ((i + 2 : Nat) : Int) = (i : Int) + 1 + 1 by omega, hW11] at h
        exact h
      have K11 : Hid (W11.heap[w6.heap.size]? = some (.cells (setC (oneF c.toNat)) 24 (0, 0))) := by
        show _ = _
        rw [← hW11, Below.heap_setCell _ _ _ _ (by show w6.heap.size ≠ R; omega)]; exact K10.out
      have HW11 := Lib.hid hW11
      have HON : Hid (∀ W, Calls Tryz.prog 74 #[.agg (setC (oneF c.toNat))] W fun e w' => e = .returned (.agg (ndC 2 (oneF c.toNat) 0 0 0 (.slice none 0 0))) ∧ Below W.heap.size W w') := fun W => one_any _ W
      rw [show ((i + 1 : Nat) : Int) = (i : Int) + 1 by omega] at c1
      have hcv : True := trivial
      clear hW11
      have KW := Lib.hid (HW11.out ▸ K11.out)
      go_wp2_with (refine wpList_load_row (by rfl) 24 (.tmp 6) (by rfl) w6.heap.size (by rfl) 24 _ (0, 0) _ KW.out Tryz.underlying24 (by rfl) info24 ?_)
      rw [HW11.out]
      refine (HON.out W11).mono ?_
      rintro e w12 ⟨rfl, hb12⟩
      have HE12 := Lib.hid (HE11.out.to hb12)
      have hst : (storeCells ⟨w.heap.size, 0, none⟩ (ndC 2 (oneF c.toNat) 0 0 0 (.slice none 0 0)).toList).run Tryz.prog w12 = .ok () (w12.setRow w.heap.size (ndC 2 (oneF c.toNat) 0 0 0 (.slice none 0 0))) := run_node HE12.out.zero rfl (nd_ndC 2 _ 0 0 0 rfl)
      have hsz9 : (ndC 2 (oneF c.toNat) 0 0 0 (.slice none 0 0)).size = 9 := rfl
      clear hb12
      go_wp2_with fail
      refine bodyPost_ret (results_cell_row (by rfl) _ _ w.heap.size 30 (ndC 2 (oneF c.toNat) 0 0 0 (.slice none 0 0)) (0, 0) _ (by rfl) (setRow_heap _ _ _ _ _ _ HE12.out.zero) Tryz.underlying30 (by rfl) info30) rfl ?_
      exact HE12.out.fin hR rfl rfl
end Go.Proofs.YtlhppbendpnkeaaGreatDoor
