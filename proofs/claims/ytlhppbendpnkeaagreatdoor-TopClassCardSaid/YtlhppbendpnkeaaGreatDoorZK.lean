/- syntax: atom at a bracket. -/
import Derived.Test.YtlhppbendpnkeaaGreatDoorMF
namespace Go.Proofs.YtlhppbendpnkeaaGreatDoor
set_option linter.unusedSimpArgs false
set_option linter.unusedVariables false
open Go.RowKit

theorem kp_cells {w w' : World} (h : Below w.heap.size w w') : ∀ b o, b < w.heap.size → w'.cell? ⟨b, o, none⟩ = w.cell? ⟨b, o, none⟩ := fun b o hb => h.cell (p := ⟨b, o, none⟩) hb

theorem one_words (f : Nat → Bool) (W : World) : Calls Tryz.prog 74 #[.agg #[.int .u64 (sW f 0 : Nat), .int .u64 (sW f 1 : Nat), .int .u64 (sW f 2 : Nat), .int .u64 (sW f 3 : Nat)]] W
    fun e w' => e = .returned (.agg (ndC 2 f 0 0 0 (.slice none 0 0))) ∧ Below W.heap.size W w' := one_any f W
theorem new4a (w : World) {w' : World} {a b c d : Value} {t : TypeId} (h : Below (w.drew.alloc (.cells #[a, b, c, d] t)).heap.size (w.drew.alloc (.cells #[a, b, c, d] t)) w') : w'.heap[w.heap.size]? = some (.cells #[a, b, c, d] t (0, 0)) :=
  blk_below (a := w.drew.alloc (.cells #[a, b, c, d] t)) (heap_alloc_new w.drew _) h (by show w.heap.size < (w.drew.alloc _).heap.size; rw [World.size_alloc]; exact Nat.lt_succ_self _)
theorem new4b (w : World) {w' : World} {a b c d : Value} {t : TypeId} (h : Below (w.alloc (.cells #[a, b, c, d] t)).drew.heap.size (w.alloc (.cells #[a, b, c, d] t)).drew w') : w'.heap[w.heap.size]? = some (.cells #[a, b, c, d] t (0, 0)) :=
  blk_below (a := (w.alloc (.cells #[a, b, c, d] t)).drew) (heap_alloc_new w _) h (by show w.heap.size < (w.alloc _).heap.size; rw [World.size_alloc]; exact Nat.lt_succ_self _)

set_option maxRecDepth 100000 in
set_option maxHeartbeats 3200000 in
theorem atom_bracket (R M : Nat) (s : ByteArray) (i : Nat) (x : Bool) (g : Nat) (m : Value) (o : Nat) (f : Nat → Bool) (rest : Bs) (fst : Bool) (w : World) (hp : Pa w R s i x g m o)
    (hM : M < w.heap.size) (hsz : s.size ≤ 65536) (hs : s.data.toList.drop i = 91 :: (printS f ++ rest)) :
    Calls Tryz.prog 45 #[.pointer (some ⟨R, 0, none⟩), .bool fst] w fun e w' => Pret 2 f 0 0 none R M s (i + 1 + (printS f).length) x g m o w.heap.size w e w' := by
  obtain ⟨hi, ha, hlen⟩ := get_head hs
  have hR := blk_lt hp
  have hsg : signB x (s.data.toList.drop i) 40 = false := by
    rw [hs]
    cases x with
    | true => rfl
    | false => cases printS f ++ rest <;> rfl
  have SA : Hid (∀ W, Pa W R s i x g m o → Calls Tryz.prog 33 #[.pointer (some ⟨R, 0, none⟩), .int .u8 40] W fun e w' => e = .returned (.bool (signB x (s.data.toList.drop i) 40)) ∧ Below W.heap.size W w') := fun W hW => sign_any R s i x g m o 40 W hW (by omega) hsz
  rw [hsg] at SA
  have hlp : s.size = i + 1 + (printS f).length + rest.length := by rw [List.length_append] at hlen; omega
  have hex : (s.extract (i + 1) s.size).data.toList = printS f ++ rest := by
    have h1 : s.data.toList.drop (i + 1) = printS f ++ rest := by
      have := congrArg List.tail hs
      rwa [List.tail_drop] at this
    rw [← h1]; exact Lib.extract_to_end s (i + 1)
  have HBR : Hid (∀ W, Calls Tryz.prog 73 #[.string (s.extract (i + 1) s.size)] W fun e w' => e = .returned (.tuple #[setV f, .int .i64 ((printS f).length : Int), .int .i64 0, .int .i64 0]) ∧ Below W.heap.size W w') := fun W =>
    Bracket_print f rest _ W hex (by rw [ByteArray.size_extract]; omega)
  obtain ⟨L, hL⟩ : ∃ L, (printS f).length = L := ⟨_, rfl⟩
  rw [hL] at HBR hlp ⊢
  unfold setV setC at HBR
  have z0 : (0 : Int) ≤ (i : Int) := by omega
  have z1 : (0 : Int) ≤ (i : Int) + 1 := by omega
  have l0 : (i : Int) < (s.size : Int) := by omega
  have l1 : decide ((i : Int) < (s.size : Int)) = true := decide_eq_true l0
  have l2 : (i : Int) + 1 ≤ (s.size : Int) := by omega
  have y1 : IntKind.i64.wrap ((i : Int) + 1) = (i : Int) + 1 := wrap_in _ (by omega) (by omega)
  have y2 : IntKind.i64.wrap (1 + (L : Int)) = 1 + (L : Int) := wrap_in _ (by omega) (by omega)
  have y3 : IntKind.i64.wrap ((i : Int) + (1 + (L : Int))) = (i : Int) + (1 + (L : Int)) := wrap_in _ (by omega) (by omega)
  have q1 : (((s[i]'hi).toNat : Int) == 91) = true := by rw [ha]; rfl
  have q2 : ((s[i]'hi).toNat : Int) = 91 := by rw [ha]; rfl
  obtain ⟨W1, hW1⟩ : ∃ W, w.alloc (.cells zeroC 30) = W := ⟨_, rfl⟩
  have HX1 : Hid (Below w.heap.size w W1) := by show Below _ _ _; rw [← hW1]; exact bl_alloc _ _
  have HZ1 : Hid (W1.heap[w.heap.size]? = some (.cells zeroC 30 (0, 0))) := by show _ = _; rw [← hW1]; exact heap_alloc_new _ _
  have HS1 : Hid (W1.heap.size = w.heap.size + 1) := by show _ = _; rw [← hW1]; simp
  have HP1 : Hid (Pa W1 R s i x g m o) := by show Pa _ _ _ _ _ _ _ _; rw [← hW1]; exact hp.to (bl_alloc _ _)
  have HW1 := Lib.hid hW1
  have HLP := Lib.hid hlp
  unfold zeroC at HW1
  have C0 : ∀ kb : Bel W1, kb.val.cell? ⟨R, 0, none⟩ = some (.string s) := fun kb => (HP1.out.to kb.below).c0
  have C1 : ∀ kb : Bel W1, kb.val.cell? ⟨R, 1, none⟩ = some (.int .i64 (i : Int)) := fun kb => (HP1.out.to kb.below).c1.1
  clear hW1 hp hs hsg hex hL hlp hlen ha
  go_enter Tryz.func45, Tryz.ntmps45
  go_wp2_with fail
  rw [HW1.out]
  refine region_bel W1 (Below.refl _ _) (by kernel_rfl) (by kernel_rfl) ?_
  repeat (go_big_quiet_step (fail))
  refine wpQuiet_nil ?_
  intro kb
  have HPk := Lib.hid (HP1.out.to kb.below)
  have HBk := Lib.hid kb.below
  obtain ⟨wk, hwk⟩ : ∃ W, kb.val = W := ⟨_, rfl⟩
  rw [hwk] at HPk HBk ⊢
  clear C0 C1 hwk kb
  go_wp2_with fail
  refine (SA.out wk HPk.out).mono ?_
  rintro e w2 ⟨rfl, hb2⟩
  have hp2 := HPk.out.to hb2
  have HP2 := Lib.hid hp2
  have HB2 := Lib.hid (bl_to HBk.out hb2)
  have hR2 := blk_lt hp2
  have c0 := hp2.c0
  have c1 := hp2.c1.1
  clear hb2 hp2
  go_wp2_with fail
  have bk : Below w2.heap.size w2 w2 := Below.refl _ _
  go_region_held3 (fun w' => Below w2.heap.size w2 w' ∧ ∀ b o, b < w2.heap.size → w'.cell? ⟨b, o, none⟩ = w2.cell? ⟨b, o, none⟩)
    (first | exact ⟨bk, kp_cells bk⟩ | exact ⟨bk.drew, kp_cells bk.drew⟩ | exact ⟨bk.alloc bk.size _, kp_cells (bk.alloc bk.size _)⟩ | exact ⟨bk.drew.alloc bk.drew.size _, kp_cells (bk.drew.alloc bk.drew.size _)⟩ | exact ⟨(((bk.setCell (Nat.le_refl _) _).setCell (Nat.le_refl _) _).setCell (Nat.le_refl _) _).setCell (Nat.le_refl _) _, kp_cells ((((bk.setCell (Nat.le_refl _) _).setCell (Nat.le_refl _) _).setCell (Nat.le_refl _) _).setCell (Nat.le_refl _) _)⟩)
    (first
      | (go_at_call 73; with_reducible refine (HBR.out w2.drew).mono ?_; rintro e w5 ⟨rfl, hb5⟩; replace bk := bl_to bk.drew hb5; clear hb5)
      | (go_at_call 73; refine (HBR.out _).mono ?_; rintro e w5 ⟨rfl, hb5⟩; have hn4 : w5.heap[w2.heap.size]? = some (.cells #[.int .u64 0, .int .u64 0, .int .u64 0, .int .u64 0] 24 (0, 0)) := new4b w2 hb5; obtain ⟨y0, g0⟩ := blk_at hn4 0 rfl; obtain ⟨y1', g1⟩ := blk_at hn4 1 rfl; obtain ⟨y2', g2⟩ := blk_at hn4 2 rfl; obtain ⟨y3', g3⟩ := blk_at hn4 3 rfl; have HN4 := Lib.hid hn4; clear hn4; replace bk := bl_to (bk.alloc bk.size _).drew hb5; clear hb5))
  · obtain ⟨W6, hW6⟩ : ∃ W, w5.alloc (.cells (setC f) 24) = W := ⟨_, rfl⟩
    have HB6 : Hid (Below w2.heap.size w2 W6) := by show Below _ _ _; rw [← hW6]; exact bk.alloc bk.size _
    have HS6 : Hid (W6.heap[w5.heap.size]? = some (.cells (setC f) 24 (0, 0))) := by show _ = _; rw [← hW6]; exact heap_alloc_new _ _
    have hb6 : w2.heap.size ≤ w5.heap.size := bk.size
    have HW6 := Lib.hid hW6
    unfold setC at HW6
    rw [HW6.out]
    generalize w5.heap.size = b6 at HS6 hb6 ⊢
    clear hW6 HW6 bk
    have hs1 := HS1.out
    have hs2 := HB2.out.size
    have hp6 := HP2.out.to HB6.out
    have hs6 := HS6.out
    have c0' := hp6.c0
    obtain ⟨c1', f1'⟩ := hp6.c1
    have HP6 := Lib.hid hp6
    have hbR : ¬ b6 = R := by omega
    have hbR2 : ¬ R = b6 := by omega
    have h6 := hs6
    unfold setC at h6
    obtain ⟨v0, -⟩ := blk_at h6 0 rfl
    obtain ⟨v1, -⟩ := blk_at h6 1 rfl
    obtain ⟨v2, -⟩ := blk_at h6 2 rfl
    obtain ⟨v3, -⟩ := blk_at h6 3 rfl
    have h7 : (W6.setCell ⟨R, 1, none⟩ (.int .i64 ((i : Int) + (1 + (L : Int))))).heap[b6]? = some (.cells (setC f) 24 (0, 0)) := by rw [Below.heap_setCell _ _ _ _ (by show b6 ≠ R; omega)]; exact hs6
    obtain ⟨W7, hW7⟩ : ∃ W, W6.setCell ⟨R, 1, none⟩ (.int .i64 ((i : Int) + (1 + (L : Int)))) = W := ⟨_, rfl⟩
    rw [hW7] at h7
    have HP7 : Hid (Pa W7 R s (i + 1 + L) x g m o) := by
      have h := hp6.set (i + 1 + L)
      rw [show ((i + 1 + L : Nat) : Int) = (i : Int) + (1 + (L : Int)) by omega, hW7] at h
      exact h
    have HX7 : Hid (Ey R M W1 W7) := by
      have h := (Ey.ofBelow (R := R) (M := M) (HB2.out.trans (HB6.out.mono HB2.out.size))).set (o := 1) (v := .int .i64 ((i : Int) + (1 + (L : Int))))
      rw [hW7] at h
      exact h
    have HW7 := Lib.hid hW7
    clear hp6 hs6 hW7 h6 h7
    go_wp2_with fail
    rw [HW7.out]
    refine (one_words f W7).mono ?_
    rintro e w8 ⟨rfl, hb8⟩
    have HB8 := Lib.hid hb8
    have HZ8 : Hid (w8.heap[w.heap.size]? = some (.cells zeroC 30 (0, 0))) := by
      show _ = _
      have h1 := HX7.out.size
      rw [HB8.out.block _ (by omega), HX7.out.block _ (by omega) (by omega) (by omega)]; exact HZ1.out
    have hst : (storeCells ⟨w.heap.size, 0, none⟩ (ndC 2 f 0 0 0 (.slice none 0 0)).toList).run Tryz.prog w8 = .ok () (w8.setRow w.heap.size (ndC 2 f 0 0 0 (.slice none 0 0))) := run_node HZ8.out rfl (nd_ndC 2 f 0 0 0 rfl)
    have hsz9 : (ndC 2 f 0 0 0 (.slice none 0 0)).size = 9 := rfl
    clear hb8
    go_wp2_with fail
    refine bodyPost_ret (results_cell_row (by rfl) _ _ w.heap.size 30 (ndC 2 f 0 0 0 (.slice none 0 0)) (0, 0) _ (by rfl) (setRow_heap _ _ _ _ _ _ HZ8.out) Tryz.underlying30 (by rfl) info30) rfl ?_
    exact ⟨_, rfl, rfl, (HP7.out.to HB8.out).row (by omega) _, ((Ey.ofBelow HX1.out).trans (HX7.out.trans (Ey.ofBelow HB8.out))).row (Nat.le_refl _) _⟩
  · have hs6 := four_row HN4.out (.int .u64 (sW f 0 : Nat)) (.int .u64 (sW f 1 : Nat)) (.int .u64 (sW f 2 : Nat)) (.int .u64 (sW f 3 : Nat))
    obtain ⟨W6, hW6⟩ : ∃ W, w5.setRow w2.heap.size (setC f) = W := ⟨_, rfl⟩
    have HB6 : Hid (Below w2.heap.size w2 W6) := by show Below _ _ _; rw [← hW6]; exact below_setRow bk (Nat.le_refl _) _
    have HS6 : Hid (W6.heap[w2.heap.size]? = some (.cells (setC f) 24 (0, 0))) := by show _ = _; rw [← hW6]; exact setRow_heap _ _ _ _ _ _ HN4.out
    have HW6 := Lib.hid hW6
    unfold setC at HW6
    rw [hs6, HW6.out]
    obtain ⟨b6, hb6'⟩ : ∃ b, w2.heap.size = b := ⟨_, rfl⟩
    have hb6 : w2.heap.size ≤ b6 := by omega
    rw [hb6'] at HS6
    rw [hb6'] at ⊢
    clear hW6 HW6 hs6 bk y0 y1' y2' y3' g0 g1 g2 g3 HN4
    have hs1 := HS1.out
    have hs2 := HB2.out.size
    have hp6 := HP2.out.to HB6.out
    have hs6 := HS6.out
    have c0' := hp6.c0
    obtain ⟨c1', f1'⟩ := hp6.c1
    have HP6 := Lib.hid hp6
    have hbR : ¬ b6 = R := by omega
    have hbR2 : ¬ R = b6 := by omega
    have h6 := hs6
    unfold setC at h6
    obtain ⟨v0, -⟩ := blk_at h6 0 rfl
    obtain ⟨v1, -⟩ := blk_at h6 1 rfl
    obtain ⟨v2, -⟩ := blk_at h6 2 rfl
    obtain ⟨v3, -⟩ := blk_at h6 3 rfl
    have h7 : (W6.setCell ⟨R, 1, none⟩ (.int .i64 ((i : Int) + (1 + (L : Int))))).heap[b6]? = some (.cells (setC f) 24 (0, 0)) := by rw [Below.heap_setCell _ _ _ _ (by show b6 ≠ R; omega)]; exact hs6
    obtain ⟨W7, hW7⟩ : ∃ W, W6.setCell ⟨R, 1, none⟩ (.int .i64 ((i : Int) + (1 + (L : Int)))) = W := ⟨_, rfl⟩
    rw [hW7] at h7
    have HP7 : Hid (Pa W7 R s (i + 1 + L) x g m o) := by
      have h := hp6.set (i + 1 + L)
      rw [show ((i + 1 + L : Nat) : Int) = (i : Int) + (1 + (L : Int)) by omega, hW7] at h
      exact h
    have HX7 : Hid (Ey R M W1 W7) := by
      have h := (Ey.ofBelow (R := R) (M := M) (HB2.out.trans (HB6.out.mono HB2.out.size))).set (o := 1) (v := .int .i64 ((i : Int) + (1 + (L : Int))))
      rw [hW7] at h
      exact h
    have HW7 := Lib.hid hW7
    clear hp6 hs6 hW7 h6 h7
    go_wp2_with fail
    rw [HW7.out]
    refine (one_words f W7).mono ?_
    rintro e w8 ⟨rfl, hb8⟩
    have HB8 := Lib.hid hb8
    have HZ8 : Hid (w8.heap[w.heap.size]? = some (.cells zeroC 30 (0, 0))) := by
      show _ = _
      have h1 := HX7.out.size
      rw [HB8.out.block _ (by omega), HX7.out.block _ (by omega) (by omega) (by omega)]; exact HZ1.out
    have hst : (storeCells ⟨w.heap.size, 0, none⟩ (ndC 2 f 0 0 0 (.slice none 0 0)).toList).run Tryz.prog w8 = .ok () (w8.setRow w.heap.size (ndC 2 f 0 0 0 (.slice none 0 0))) := run_node HZ8.out rfl (nd_ndC 2 f 0 0 0 rfl)
    have hsz9 : (ndC 2 f 0 0 0 (.slice none 0 0)).size = 9 := rfl
    clear hb8
    go_wp2_with fail
    refine bodyPost_ret (results_cell_row (by rfl) _ _ w.heap.size 30 (ndC 2 f 0 0 0 (.slice none 0 0)) (0, 0) _ (by rfl) (setRow_heap _ _ _ _ _ _ HZ8.out) Tryz.underlying30 (by rfl) info30) rfl ?_
    exact ⟨_, rfl, rfl, (HP7.out.to HB8.out).row (by omega) _, ((Ey.ofBelow HX1.out).trans (HX7.out.trans (Ey.ofBelow HB8.out))).row (Nat.le_refl _) _⟩
end Go.Proofs.YtlhppbendpnkeaaGreatDoor
