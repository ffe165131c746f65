/- sets: Count, Bytes. -/
import Derived.Test.YtlhppbendpnkeaaGreatDoorO
namespace Go.Proofs.YtlhppbendpnkeaaGreatDoor
set_option linter.unusedSimpArgs false
set_option linter.unusedVariables false
open Go.RowKit

theorem cntN_le (g : Nat → Bool) : ∀ n, cntN g n ≤ n := by
  intro n
  induction n with
  | zero => exact Nat.le_refl _
  | succ n ih =>
    have e : cntN g (n + 1) = cntN g n + (if g n then 1 else 0) := rfl
    rw [e]
    split <;> omega
theorem cntN_add (g : Nat → Bool) (n : Nat) : ∀ m, cntN g (n + m) = cntN g n + cntN (fun k => g (n + k)) m := by
  intro m
  induction m with
  | zero => rfl
  | succ m ih =>
    have e1 : cntN g (n + (m + 1)) = cntN g (n + m) + (if g (n + m) then 1 else 0) := rfl
    have e2 : cntN (fun k => g (n + k)) (m + 1) = cntN (fun k => g (n + k)) m + (if g (n + m) then 1 else 0) := rfl
    rw [e1, e2, ih]; omega
def wordC (f : Nat → Bool) (i : Nat) : Nat := cntN (fun k => f (64 * i + k)) 64
theorem cnt_words (f : Nat → Bool) : cntN f 256 = wordC f 0 + wordC f 1 + wordC f 2 + wordC f 3 := by
  have h1 := cntN_add f 0 64
  have h2 := cntN_add f 64 64
  have h3 := cntN_add f 128 64
  have h4 := cntN_add f 192 64
  have h0 : cntN f 0 = 0 := rfl
  simp only [wordC, Nat.mul_zero, Nat.mul_one, Nat.reduceMul, Nat.reduceAdd] at *
  omega

theorem run_ix (a b c d : Value) (w : World) : (Instr.index 24 (.agg #[a, b, c, d]) (.int .i64 0)).run Tryz.prog w = .ok a w ∧ (Instr.index 24 (.agg #[a, b, c, d]) (.int .i64 1)).run Tryz.prog w = .ok b w ∧ (Instr.index 24 (.agg #[a, b, c, d]) (.int .i64 2)).run Tryz.prog w = .ok c w ∧ (Instr.index 24 (.agg #[a, b, c, d]) (.int .i64 3)).run Tryz.prog w = .ok d w := by
  refine ⟨?_, ?_, ?_, ?_⟩ <;> simp [Instr.index, run_underlying Tryz.underlying24, asIntOf, go_sem]

set_option maxHeartbeats 1600000 in
theorem Count_any (f : Nat → Bool) (w : World) :
    Calls Tryz.prog 10 #[setV f] w fun e w' => e = .returned (.int .i64 (cntN f 256 : Int)) ∧ Below w.heap.size w w' := by
  have l0 : wordC f 0 ≤ 64 := cntN_le _ _
  have l1 : wordC f 1 ≤ 64 := cntN_le _ _
  have l2 : wordC f 2 ≤ 64 := cntN_le _ _
  have l3 : wordC f 3 ≤ 64 := cntN_le _ _
  rw [cnt_words]
  have HO : Hid (∀ (i : Nat) (W : World), Calls Tryz.prog 30 #[.int .u64 (sW f i : Int)] W fun e w' => e = .returned (.int .i64 (wordC f i : Int)) ∧ Below W.heap.size W w') := fun i W => Ones_any (fun k => f (64 * i + k)) W
  have x0 : IntKind.i64.wrap (wordC f 0 : Int) = (wordC f 0 : Int) := wrap_in _ (by omega) (by omega)
  have x1 : IntKind.i64.wrap ((wordC f 0 : Int) + (wordC f 1 : Int)) = (wordC f 0 : Int) + (wordC f 1 : Int) := wrap_in _ (by omega) (by omega)
  have x2 : IntKind.i64.wrap ((wordC f 0 : Int) + (wordC f 1 : Int) + (wordC f 2 : Int)) = (wordC f 0 : Int) + (wordC f 1 : Int) + (wordC f 2 : Int) := wrap_in _ (by omega) (by omega)
  have x3 : IntKind.i64.wrap ((wordC f 0 : Int) + (wordC f 1 : Int) + (wordC f 2 : Int) + (wordC f 3 : Int)) = (wordC f 0 : Int) + (wordC f 1 : Int) + (wordC f 2 : Int) + (wordC f 3 : Int) := wrap_in _ (by omega) (by omega)
  have e4 : ((wordC f 0 + wordC f 1 + wordC f 2 + wordC f 3 : Nat) : Int) = (wordC f 0 : Int) + (wordC f 1 : Int) + (wordC f 2 : Int) + (wordC f 3 : Int) := by omega
  rw [e4]
  clear e4 l0 l1 l2 l3
  unfold setV setC
  have HIX := fun W => (run_ix (.int .u64 (sW f 0 : Nat)) (.int .u64 (sW f 1 : Nat)) (.int .u64 (sW f 2 : Nat)) (.int .u64 (sW f 3 : Nat)) W)
  have i0 := fun W => (HIX W).1
  have i1 := fun W => (HIX W).2.1
  have i2 := fun W => (HIX W).2.2.1
  have i3 := fun W => (HIX W).2.2.2
  clear HIX
  go_enter Tryz.func10, Tryz.ntmps10
  go_wp2_with fail
  have HB0 : Hid (Below w.heap.size w (w.alloc (.cells #[.int .u64 (sW f 0 : Nat), .int .u64 (sW f 1 : Nat), .int .u64 (sW f 2 : Nat), .int .u64 (sW f 3 : Nat)] 24))) := bl_alloc _ _
  refine wp_loop_rounds 5 ?_
  rw [rounds_succ]
  go_wp2_with fail
  refine (HO.out _ _).mono ?_
  rintro e w1 ⟨rfl, hb⟩
  have HB1 := Lib.hid (bl_to HB0.out hb)
  clear hb
  go_wp2_with fail
  rw [rounds_succ]
  go_wp2_with fail
  refine (HO.out _ _).mono ?_
  rintro e w2 ⟨rfl, hb⟩
  have HB2 := Lib.hid (bl_to HB1.out hb)
  clear hb
  go_wp2_with fail
  rw [rounds_succ]
  go_wp2_with fail
  refine (HO.out _ _).mono ?_
  rintro e w3 ⟨rfl, hb⟩
  have HB3 := Lib.hid (bl_to HB2.out hb)
  clear hb
  go_wp2_with fail
  rw [rounds_succ]
  go_wp2_with fail
  refine (HO.out _ _).mono ?_
  rintro e w4 ⟨rfl, hb⟩
  have HB4 := Lib.hid (bl_to HB3.out hb)
  clear hb
  go_wp2_with fail
  rw [rounds_succ]
  go_wp2_with fail
  go_ret
  exact ⟨rfl, HB4.out⟩

/-- The bytes of a set below n, rising. -/
def natL (f : Nat → Bool) (n : Nat) : List Nat := (List.range n).filter f
def natC (l : List Nat) : List Value := l.map (fun c : Nat => .int .u8 (c : Int))
theorem natL_succ (f : Nat → Bool) (n : Nat) : natL f (n + 1) = natL f n ++ (if f n then [n] else []) := by
  unfold natL
  rw [List.range_succ, List.filter_append]
  congr 1
  cases h : f n <;> simp [h]
theorem natL_le (f : Nat → Bool) (n : Nat) : (natL f n).length ≤ n := by
  unfold natL
  have := List.length_filter_le f (List.range n)
  rwa [List.length_range] at this

set_option maxHeartbeats 1600000 in
theorem Bytes_any (f : Nat → Bool) (w : World) :
    Calls Tryz.prog 12 #[setV f] w fun e w' => (∃ v, e = .returned v ∧ w'.ownsRow (w.heap.size + 1) 5 1 v (natL f 256).length (natC (natL f 256))) ∧ Below w.heap.size w w' := by
  obtain ⟨i0, hi0, hz0, hz1, hz2⟩ := info_parts info5
  have HH : Hid (∀ (k : Nat) (W : World), k < 256 → Calls Tryz.prog 31 #[.agg (setC f), .int .u8 (k : Int)] W fun e w' => e = .returned (.bool (f k)) ∧ Below W.heap.size W w') := fun k W hk => Has_any f k hk W
  unfold setV
  go_enter Tryz.func12, Tryz.ntmps12
  go_wp2_with fail
  go_loopw [3, 5] (fun s3 s5 wr => ∃ k : Nat, s5 = .int .i64 (k : Int) ∧ k ≤ 256 ∧ (∃ v, v = s3 ∧ wr.ownsRow (w.heap.size + 1) 5 1 v (natL f k).length (natC (natL f k))) ∧ wr.heap[w.heap.size]? = some (.cells (setC f) 24 (0, 0)) ∧ Below w.heap.size w wr) (fun _ s5 _ => 256 - (intOf s5).toNat)
  case atStart =>
    refine ⟨0, rfl, by decide, ⟨_, rfl, ⟨by rfl, .inl ⟨rfl, rfl⟩⟩⟩, heap_alloc_new _ _, bl_alloc _ _⟩
  case round =>
    obtain ⟨k, rfl, hk, ⟨v, rfl, hown⟩, h0, hbl⟩ := hrel
    have H0 := Lib.hid h0
    have HB := Lib.hid hbl
    have HO := Lib.hid hown
    have hs := blk_lt h0
    clear h0 hbl hown
    by_cases hlt : k < 256
    · have l1 : (k : Int) < 256 := by omega
      have w1 : IntKind.u8.wrap (k : Int) = (k : Int) := IntWalk.u8_in _ ⟨by omega, by omega⟩
      have x2 : IntKind.i64.wrap ((k : Int) + 1) = ((k + 1 : Nat) : Int) := by rw [wrap_in _ (by omega) (by omega)]; push_cast; rfl
      go_wp2_with (refine wpList_load_row (by rfl) 24 _ (by rfl) (w.heap.size) (by rfl) 24 _ (0, 0) _ H0.out Tryz.underlying24 (by rfl) info24 ?_)
      refine (HH.out k _ hlt).mono ?_
      rintro e w2 ⟨rfl, hb2⟩
      have H0' : Hid (w2.heap[w.heap.size]? = _) := blk_below H0.out hb2 (by omega)
      have HB' := Lib.hid (below_bl HB.out hb2 (by omega))
      have HO' := Lib.hid (row_to hb2 HO.out)
      have hsz2 := hb2.size
      clear hb2
      have hll := natL_le f k
      by_cases hf : f k = true
      · have HS : Hid (natL f (k + 1) = natL f k ++ [k]) := by show _ = _; rw [natL_succ, if_pos hf]
        rw [hf]
        go_wp2_with (at_builtin; go_must (refine wpList_append_own _ rfl _ _ 44 rfl (w.heap.size + 1) 5 i0 (.int .u8 0) 1 1 Tryz.underlying44 hi0 hz0 hz1 hz2 rfl (by decide) _ _ _ rfl (HO'.out.alloc _) ⟨w2.heap.size, 0, none⟩ 1 1 [.int .u8 (k : Int)] rfl rfl (by intro j u hj; rcases j with _ | j <;> simp_all [Addr.add]) (by intro u hu; simp at hu; subst hu; rfl) (by unfold maxLen; omega) (by omega) (by simp; omega) ?_))
        intro v' w3 hown' hgrow _
        have H0'' : Hid (w3.heap[w.heap.size]? = some (.cells (setC f) 24 (0, 0))) := by
          show _ = _
          rw [hgrow.block _ (by simp; omega) (fun e => by have := own_block HO'.out _ e.symm; omega), Lib.alloc_old w2 _ _ (by omega)]
          exact H0'.out
        have HB'' := Lib.hid ((HB'.out.alloc (by omega) (.cells #[.int .u8 (k : Int)] 5)).grown hgrow (by simp; omega) (fun k hk => by have := own_block HO'.out k hk; omega))
        have HO'' : Hid (w3.ownsRow (w.heap.size + 1) 5 1 v' (natL f (k + 1)).length (natC (natL f (k + 1)))) := by
          show World.ownsRow _ _ _ _ _ _ _
          rw [HS.out]
          simpa [natC] using hown'
        clear hown' hgrow
        go_wp2_with fail
        go_roundw
        case rel => exact ⟨k + 1, by first | rfl | go_num, by omega, ⟨_, rfl, HO''.out⟩, H0''.out, HB''.out⟩
        case measure => simp [intOf]; omega
      · have hf' : f k = false := by simpa using hf
        have HS : Hid (natL f (k + 1) = natL f k) := by show _ = _; rw [natL_succ, if_neg hf, List.append_nil]
        rw [hf']
        go_wp2_with fail
        go_roundw
        case rel => exact ⟨k + 1, by first | rfl | go_num, by omega, ⟨_, rfl, by rw [HS.out]; exact HO'.out⟩, H0'.out, HB'.out⟩
        case measure => simp [intOf]; omega
    · obtain rfl : k = 256 := by omega
      go_wp2_with fail
      go_ret
      exact ⟨⟨_, rfl, HO.out⟩, HB.out⟩
end Go.Proofs.YtlhppbendpnkeaaGreatDoor
