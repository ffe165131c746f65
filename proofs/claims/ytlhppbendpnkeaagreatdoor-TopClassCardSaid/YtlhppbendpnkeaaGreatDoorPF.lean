/- syntax.Print: how a set is written. -/
import Derived.Test.YtlhppbendpnkeaaGreatDoorPE
namespace Go.Proofs.YtlhppbendpnkeaaGreatDoor
set_option linter.unusedSimpArgs false
set_option linter.unusedVariables false
open Go.RowKit

/-- The special signs. -/
def spL (x : Bool) : Bs := [92, 94, 36, 46, 91, 42] ++ (if x then [40, 41, 43, 63, 123, 124] else [])
theorem spL_mem (x : Bool) (c : UInt8) : c ∈ spL x ↔ spcB x c = true := by
  cases x
  · simp [spL, spcB]
  · simp [spL, spcB, or_assoc]
theorem ib_mem (c : UInt8) : ∀ l : Bs, (c ∈ l → 0 ≤ Lib.indexByte l c) ∧ (c ∉ l → Lib.indexByte l c = -1) := by
  intro l
  induction l with
  | nil => exact ⟨fun h => absurd h (by simp), fun _ => rfl⟩
  | cons b l ih =>
    unfold Lib.indexByte
    by_cases h : b = c
    · subst h; simp
    · have h' : (b == c) = false := by simpa using h
      rw [h']
      constructor
      · intro hm
        have hm' : c ∈ l := by
          rcases List.mem_cons.1 hm with e | e
          · exact absurd e.symm h
          · exact e
        have := ih.1 hm'
        have e : (Lib.indexByte l c == -1) = false := by simp; omega
        simp [e]; omega
      · intro hm
        have hm' : c ∉ l := fun e => hm (List.mem_cons_of_mem _ e)
        rw [ih.2 hm']; simp
/-- How a set is written. -/
def oneT (x : Bool) (c : Nat) : Bs := if c = 10 then [92, 110] else if spcB x (UInt8.ofNat c) then [92, UInt8.ofNat c] else [UInt8.ofNat c]
def setT (x : Bool) (f : Nat → Bool) : Bs := if (natL f 256).length = 256 then [46] else if (natL f 256).length = 1 then oneT x ((natL f 256).getD 0 0) else 91 :: printS f
theorem setT_le (x : Bool) (f : Nat → Bool) : (setT x f).length ≤ 2821 := by
  unfold setT oneT
  have := printS_le f
  repeat' split
  all_goals simp; try omega

set_option maxRecDepth 100000 in
set_option maxHeartbeats 6400000 in
theorem set_true (B R : Nat) (l : Bs) (f : Nat → Bool) (w : World) (h : Wr w B R true l) (hlen : l.length + (setT true f).length ≤ 4096) (hBw : B ≤ w.heap.size) :
    Calls Tryz.prog 54 #[.pointer (some ⟨R, 0, none⟩), .agg (seC f)] w fun e w' => e = .returned (.tuple #[]) ∧ (Wr w' B R true (l ++ setT true f) ∧ Ot B R w w') := by
  obtain ⟨W1, hW1⟩ : ∃ W, w.alloc (.cells (seC f) 30) = W := ⟨_, rfl⟩
  have HB1 : Hid (Below w.heap.size w W1) := by show Below _ _ _; rw [← hW1]; exact bl_alloc _ _
  have HN1 : Hid (W1.heap[w.heap.size]? = some (.cells (seC f) 30 (0, 0))) := by show _ = _; rw [← hW1]; exact heap_alloc_new _ _
  have c2 : ∀ ob, (w.alloc ob).cell? ⟨R, 2, none⟩ = some (.bool true) := fun ob => (h.to (bl_alloc w ob)).ext
  have HBY : Hid (∀ W, Calls Tryz.prog 12 #[.agg #[.int .u64 (sW f 0 : Nat), .int .u64 (sW f 1 : Nat), .int .u64 (sW f 2 : Nat), .int .u64 (sW f 3 : Nat)]] W fun e w' => (∃ v, e = .returned v ∧ w'.ownsRow (W.heap.size + 1) 5 1 v (natL f 256).length (natC (natL f 256))) ∧ Below W.heap.size W w') := fun W => Bytes_any f W
  have HPR : Hid (∀ W, Calls Tryz.prog 5 #[.agg #[.int .u64 (sW f 0 : Nat), .int .u64 (sW f 1 : Nat), .int .u64 (sW f 2 : Nat), .int .u64 (sW f 3 : Nat)]] W fun e w' => e = .returned (.string ⟨(printS f).toArray⟩) ∧ Below W.heap.size W w') := fun W => Print_any f W
  have HPU : Hid (∀ (t : ByteArray) W, Wr W B R true l → B ≤ W.heap.size → l.length + t.size ≤ 4096 → Calls Tryz.prog 61 #[.pointer (some ⟨R, 0, none⟩), .string t] W fun e w' => e = .returned (.tuple #[]) ∧ (Wr w' B R true (l ++ t.data.toList) ∧ Ot B R W w')) := fun t W hW hb hl => put_any B R true l t W hW hl hb
  have HWr := Lib.hid h
  have HLN := Lib.hid hlen
  have HSL := Lib.hid (printS_le f)
  have hnl := natL_le f 256
  have HW1 := Lib.hid hW1
  unfold seC at HW1 ⊢
  clear hW1 h hlen
  go_enter Tryz.func54, Tryz.ntmps54
  go_wp2_with fail
  rw [HW1.out]
  refine (HBY.out W1).mono ?_
  rintro e w2 ⟨⟨v, rfl, hown⟩, hb2⟩
  obtain ⟨ao, cap, rfl⟩ := row_len hown
  have HB2 := Lib.hid (HB1.out.trans (hb2.mono HB1.out.size))
  have HN2 := Lib.hid (blk_below HN1.out hb2 (blk_lt HN1.out))
  have HWr2 := Lib.hid ((HWr.out.to HB1.out).to hb2)
  have HO := Lib.hid hown
  have hs2 := HB2.out.size
  obtain ⟨n, hn⟩ : ∃ n, (natL f 256).length = n := ⟨_, rfl⟩
  rw [hn] at hnl ⊢
  have HNN := Lib.hid hn
  clear hown hb2 hn c2
  by_cases h256 : n = 256
  · have q1 : ((n : Int) == 256) = true := by rw [h256]; rfl
    have hT : setT true f = [46] := by unfold setT; rw [HNN.out, if_pos h256]
    have HT := Lib.hid hT
    have hl := HLN.out
    rw [hT] at hl
    clear hT h256
    go_wp2_with fail
    refine (HPU.out _ w2 HWr2.out (by omega) (by first | exact hl | (rw [ByteArray.size_append]; exact hl))).mono ?_
    rintro e w4 ⟨rfl, hw4, ho4⟩
    have H4 := Lib.hid hw4
    have O4 := Lib.hid ho4
    clear hw4 ho4
    go_wp2_with fail
    go_end0
    refine ⟨rfl, ?_, (Ot.ofBelow HB2.out hBw).trans O4.out⟩
    rw [HT.out]
    first | exact H4.out | (have h := H4.out; rw [ByteArray.data_append, Array.toList_append] at h; exact h)
  · have q1 : ((n : Int) == 256) = false := by simp; omega
    by_cases h1 : n = 1
    · have q2 : ((n : Int) != 1) = false := by rw [h1]; rfl
      obtain ⟨c, hc⟩ : ∃ c, natL f 256 = [c] := by
        have := HNN.out
        rw [h1] at this
        exact List.length_eq_one_iff.1 this
      have hc256 : c < 256 := (natL_mem.1 (by rw [hc]; simp : c ∈ natL f 256)).1
      have hT : setT true f = oneT true c := by unfold setT; rw [HNN.out, if_neg h256, if_pos h1, hc]; rfl
      have hown := HO.out
      rw [hc] at hown
      obtain ⟨g, rfl, hcell⟩ : ∃ g, ao = some ⟨g, 0, none⟩ ∧ w2.cell? ⟨g, 0, none⟩ = some (.int .u8 (c : Int)) := by
        rcases hown.2 with ⟨hv, h0⟩ | ⟨g, cap', cur, hv, _⟩
        · simp at h0
        · simp only [Value.slice.injEq] at hv
          obtain ⟨e1, e2, e3⟩ := hv
          refine ⟨g, e1, ?_⟩
          have h2 := World.ownsRow.cells hown (g := g) (by rw [e1]; rfl) 0 (.int .u8 (c : Int)) rfl
          rwa [Addr.add_mid] at h2
      subst h1
      have hcv : (convert 44 9 (.slice (some ⟨g, 0, none⟩) 1 cap)).run Tryz.prog w2 = .ok (.string ⟨[UInt8.ofNat c].toArray⟩) w2 := conv_row (l := [UInt8.ofNat c]) (by
        have e : natC [c] = Lib.byteCells [UInt8.ofNat c] := by simp [natC, Lib.byteCells, toNat_byte hc256]
        rw [← e]; exact hown)
      have HT := Lib.hid hT
      have hl := HLN.out
      rw [hT] at hl
      have HIB : Hid (Calls Tryz.prog 76 #[.string { data := #[92, 94, 36, 46, 91, 42, 40, 41, 43, 63, 123, 124] }, .int .u8 (c : Int)] w2 fun e w' => e = .returned (.int .i64 (Lib.indexByte (spL true) (UInt8.ofNat c))) ∧ w2 = w') := by
        have h := Tryz.strings_IndexByte { data := #[92, 94, 36, 46, 91, 42, 40, 41, 43, 63, 123, 124] } (c : Int) w2
        have e : (c : Int).toNat.toUInt8 = UInt8.ofNat c := by simp
        rw [e] at h
        exact h.mono fun e w' hp => ⟨hp.1, hp.2.symm⟩
      clear hT hown h256
      by_cases h10 : c = 10
      · have q3 : ((c : Int) == 10) = true := by rw [h10]; rfl
        have hO : oneT true c = [92, 110] := by unfold oneT; rw [if_pos h10]
        have HOO := Lib.hid hO
        rw [hO] at hl
        clear hO h10
        go_wp2_with fail
        refine (HPU.out _ w2 HWr2.out (by omega) (by first | exact hl | (rw [ByteArray.size_append]; exact hl))).mono ?_
        rintro e w4 ⟨rfl, hw4, ho4⟩
        have H4 := Lib.hid hw4
        have O4 := Lib.hid ho4
        clear hw4 ho4
        go_wp2_with fail
        go_end0
        refine ⟨rfl, ?_, (Ot.ofBelow HB2.out hBw).trans O4.out⟩
        rw [HT.out, HOO.out]
        first | exact H4.out | (have h := H4.out; rw [ByteArray.data_append, Array.toList_append] at h; exact h)
      · have q3 : ((c : Int) == 10) = false := by simp; omega
        by_cases hsp : spcB true (UInt8.ofNat c) = true
        · have hO : oneT true c = [92, UInt8.ofNat c] := by unfold oneT; rw [if_neg h10, if_pos hsp]
          have HOO := Lib.hid hO
          rw [hO] at hl
          have hz := (ib_mem (UInt8.ofNat c) (spL true)).1 ((spL_mem _ _).2 hsp)
          obtain ⟨z, hz'⟩ : ∃ z, Lib.indexByte (spL true) (UInt8.ofNat c) = z := ⟨_, rfl⟩
          rw [hz'] at hz HIB
          have q4 : decide ((0 : Int) ≤ z) = true := decide_eq_true hz
          clear hO h10 hsp hz'
          go_wp2_with fail
          refine HIB.out.mono ?_
          rintro e w3 ⟨rfl, rfl⟩
          go_wp2_with fail
          refine (HPU.out _ w2 HWr2.out (by omega) (by first | exact hl | (rw [ByteArray.size_append]; exact hl))).mono ?_
          rintro e w4 ⟨rfl, hw4, ho4⟩
          have H4 := Lib.hid hw4
          have O4 := Lib.hid ho4
          clear hw4 ho4
          go_wp2_with fail
          go_end0
          refine ⟨rfl, ?_, (Ot.ofBelow HB2.out hBw).trans O4.out⟩
          rw [HT.out, HOO.out]
          first | exact H4.out | (have h := H4.out; rw [ByteArray.data_append, Array.toList_append] at h; exact h)
        · have hO : oneT true c = [UInt8.ofNat c] := by unfold oneT; rw [if_neg h10, if_neg hsp]
          have HOO := Lib.hid hO
          rw [hO] at hl
          rw [(ib_mem (UInt8.ofNat c) (spL true)).2 (fun hm => hsp ((spL_mem _ _).1 hm))] at HIB
          clear hO h10 hsp
          go_wp2_with fail
          refine HIB.out.mono ?_
          rintro e w3 ⟨rfl, rfl⟩
          go_wp2_with fail
          refine (HPU.out _ w2 HWr2.out (by omega) (by first | exact hl | (rw [ByteArray.size_append]; exact hl))).mono ?_
          rintro e w4 ⟨rfl, hw4, ho4⟩
          have H4 := Lib.hid hw4
          have O4 := Lib.hid ho4
          clear hw4 ho4
          go_wp2_with fail
          go_end0
          refine ⟨rfl, ?_, (Ot.ofBelow HB2.out hBw).trans O4.out⟩
          rw [HT.out, HOO.out]
          first | exact H4.out | (have h := H4.out; rw [ByteArray.data_append, Array.toList_append] at h; exact h)
    · have q2 : ((n : Int) != 1) = true := by simp; omega
      have hT : setT true f = 91 :: printS f := by unfold setT; rw [HNN.out, if_neg h256, if_neg h1]
      have HT := Lib.hid hT
      have hl := HLN.out
      rw [hT] at hl
      have hn2 := HN2.out
      unfold seC at hn2
      have v1 := (blk_at hn2 1 rfl).1
      have v2 := (blk_at hn2 2 rfl).1
      have v3 := (blk_at hn2 3 rfl).1
      have v4 := (blk_at hn2 4 rfl).1
      simp only [List.getElem_toArray, List.getElem_cons_zero, List.getElem_cons_succ] at v1 v2 v3 v4
      obtain ⟨ps, hps⟩ : ∃ ps : ByteArray, ⟨(printS f).toArray⟩ = ps := ⟨_, rfl⟩
      have hpl : ps.data.toList = printS f := by rw [← hps]
      have hpz : ps.size = (printS f).length := by rw [← hps]; simp [ByteArray.size]
      have hsl := HSL.out
      rw [hps] at HPR
      have hpb : ps.size ≤ 2820 := by omega
      have HPZ := Lib.hid hpz
      clear hT h256 h1 hn2 hpz hsl hps
      go_wp2_with fail
      refine (HPR.out w2).mono ?_
      rintro e w3 ⟨rfl, hb3⟩
      have HB3 := Lib.hid (HB2.out.trans (hb3.mono HB2.out.size))
      have HWr3 := Lib.hid (HWr2.out.to hb3)
      have hs3 := HB3.out.size
      clear hb3
      go_wp2_with fail
      refine (HPU.out _ w3 HWr3.out (by omega) (by rw [ByteArray.size_append, HPZ.out]; have : ({ data := #[91] } : ByteArray).size = 1 := rfl; rw [List.length_cons] at hl; omega)).mono ?_
      rintro e w4 ⟨rfl, hw4, ho4⟩
      have H4 := Lib.hid hw4
      have O4 := Lib.hid ho4
      clear hw4 ho4
      go_wp2_with fail
      go_end0
      refine ⟨rfl, ?_, (Ot.ofBelow HB3.out hBw).trans O4.out⟩
      rw [HT.out]
      have h := H4.out
      rw [ByteArray.data_append, Array.toList_append, hpl] at h
      exact h

set_option maxRecDepth 100000 in
set_option maxHeartbeats 6400000 in
theorem set_false (B R : Nat) (l : Bs) (f : Nat → Bool) (w : World) (h : Wr w B R false l) (hlen : l.length + (setT false f).length ≤ 4096) (hBw : B ≤ w.heap.size) :
    Calls Tryz.prog 54 #[.pointer (some ⟨R, 0, none⟩), .agg (seC f)] w fun e w' => e = .returned (.tuple #[]) ∧ (Wr w' B R false (l ++ setT false f) ∧ Ot B R w w') := by
  obtain ⟨W1, hW1⟩ : ∃ W, w.alloc (.cells (seC f) 30) = W := ⟨_, rfl⟩
  have HB1 : Hid (Below w.heap.size w W1) := by show Below _ _ _; rw [← hW1]; exact bl_alloc _ _
  have HN1 : Hid (W1.heap[w.heap.size]? = some (.cells (seC f) 30 (0, 0))) := by show _ = _; rw [← hW1]; exact heap_alloc_new _ _
  have c2 : ∀ ob, (w.alloc ob).cell? ⟨R, 2, none⟩ = some (.bool false) := fun ob => (h.to (bl_alloc w ob)).ext
  have HBY : Hid (∀ W, Calls Tryz.prog 12 #[.agg #[.int .u64 (sW f 0 : Nat), .int .u64 (sW f 1 : Nat), .int .u64 (sW f 2 : Nat), .int .u64 (sW f 3 : Nat)]] W fun e w' => (∃ v, e = .returned v ∧ w'.ownsRow (W.heap.size + 1) 5 1 v (natL f 256).length (natC (natL f 256))) ∧ Below W.heap.size W w') := fun W => Bytes_any f W
  have HPR : Hid (∀ W, Calls Tryz.prog 5 #[.agg #[.int .u64 (sW f 0 : Nat), .int .u64 (sW f 1 : Nat), .int .u64 (sW f 2 : Nat), .int .u64 (sW f 3 : Nat)]] W fun e w' => e = .returned (.string ⟨(printS f).toArray⟩) ∧ Below W.heap.size W w') := fun W => Print_any f W
  have HPU : Hid (∀ (t : ByteArray) W, Wr W B R false l → B ≤ W.heap.size → l.length + t.size ≤ 4096 → Calls Tryz.prog 61 #[.pointer (some ⟨R, 0, none⟩), .string t] W fun e w' => e = .returned (.tuple #[]) ∧ (Wr w' B R false (l ++ t.data.toList) ∧ Ot B R W w')) := fun t W hW hb hl => put_any B R false l t W hW hl hb
  have HWr := Lib.hid h
  have HLN := Lib.hid hlen
  have HSL := Lib.hid (printS_le f)
  have hnl := natL_le f 256
  have HW1 := Lib.hid hW1
  unfold seC at HW1 ⊢
  clear hW1 h hlen
  go_enter Tryz.func54, Tryz.ntmps54
  go_wp2_with fail
  rw [HW1.out]
  refine (HBY.out W1).mono ?_
  rintro e w2 ⟨⟨v, rfl, hown⟩, hb2⟩
  obtain ⟨ao, cap, rfl⟩ := row_len hown
  have HB2 := Lib.hid (HB1.out.trans (hb2.mono HB1.out.size))
  have HN2 := Lib.hid (blk_below HN1.out hb2 (blk_lt HN1.out))
  have HWr2 := Lib.hid ((HWr.out.to HB1.out).to hb2)
  have HO := Lib.hid hown
  have hs2 := HB2.out.size
  obtain ⟨n, hn⟩ : ∃ n, (natL f 256).length = n := ⟨_, rfl⟩
  rw [hn] at hnl ⊢
  have HNN := Lib.hid hn
  clear hown hb2 hn c2
  by_cases h256 : n = 256
  · have q1 : ((n : Int) == 256) = true := by rw [h256]; rfl
    have hT : setT false f = [46] := by unfold setT; rw [HNN.out, if_pos h256]
    have HT := Lib.hid hT
    have hl := HLN.out
    rw [hT] at hl
    clear hT h256
    go_wp2_with fail
    refine (HPU.out _ w2 HWr2.out (by omega) (by first | exact hl | (rw [ByteArray.size_append]; exact hl))).mono ?_
    rintro e w4 ⟨rfl, hw4, ho4⟩
    have H4 := Lib.hid hw4
    have O4 := Lib.hid ho4
    clear hw4 ho4
    go_wp2_with fail
    go_end0
    refine ⟨rfl, ?_, (Ot.ofBelow HB2.out hBw).trans O4.out⟩
    rw [HT.out]
    first | exact H4.out | (have h := H4.out; rw [ByteArray.data_append, Array.toList_append] at h; exact h)
  · have q1 : ((n : Int) == 256) = false := by simp; omega
    by_cases h1 : n = 1
    · have q2 : ((n : Int) != 1) = false := by rw [h1]; rfl
      obtain ⟨c, hc⟩ : ∃ c, natL f 256 = [c] := by
        have := HNN.out
        rw [h1] at this
        exact List.length_eq_one_iff.1 this
      have hc256 : c < 256 := (natL_mem.1 (by rw [hc]; simp : c ∈ natL f 256)).1
      have hT : setT false f = oneT false c := by unfold setT; rw [HNN.out, if_neg h256, if_pos h1, hc]; rfl
      have hown := HO.out
      rw [hc] at hown
      obtain ⟨g, rfl, hcell⟩ : ∃ g, ao = some ⟨g, 0, none⟩ ∧ w2.cell? ⟨g, 0, none⟩ = some (.int .u8 (c : Int)) := by
        rcases hown.2 with ⟨hv, h0⟩ | ⟨g, cap', cur, hv, _⟩
        · simp at h0
        · simp only [Value.slice.injEq] at hv
          obtain ⟨e1, e2, e3⟩ := hv
          refine ⟨g, e1, ?_⟩
          have h2 := World.ownsRow.cells hown (g := g) (by rw [e1]; rfl) 0 (.int .u8 (c : Int)) rfl
          rwa [Addr.add_mid] at h2
      subst h1
      have hcv : (convert 44 9 (.slice (some ⟨g, 0, none⟩) 1 cap)).run Tryz.prog w2 = .ok (.string ⟨[UInt8.ofNat c].toArray⟩) w2 := conv_row (l := [UInt8.ofNat c]) (by
        have e : natC [c] = Lib.byteCells [UInt8.ofNat c] := by simp [natC, Lib.byteCells, toNat_byte hc256]
        rw [← e]; exact hown)
      have HT := Lib.hid hT
      have hl := HLN.out
      rw [hT] at hl
      have HIB : Hid (Calls Tryz.prog 76 #[.string { data := #[92, 94, 36, 46, 91, 42] }, .int .u8 (c : Int)] w2 fun e w' => e = .returned (.int .i64 (Lib.indexByte (spL false) (UInt8.ofNat c))) ∧ w2 = w') := by
        have h := Tryz.strings_IndexByte { data := #[92, 94, 36, 46, 91, 42] } (c : Int) w2
        have e : (c : Int).toNat.toUInt8 = UInt8.ofNat c := by simp
        rw [e] at h
        exact h.mono fun e w' hp => ⟨hp.1, hp.2.symm⟩
      clear hT hown h256
      by_cases h10 : c = 10
      · have q3 : ((c : Int) == 10) = true := by rw [h10]; rfl
        have hO : oneT false c = [92, 110] := by unfold oneT; rw [if_pos h10]
        have HOO := Lib.hid hO
        rw [hO] at hl
        clear hO h10
        go_wp2_with fail
        refine (HPU.out _ w2 HWr2.out (by omega) (by first | exact hl | (rw [ByteArray.size_append]; exact hl))).mono ?_
        rintro e w4 ⟨rfl, hw4, ho4⟩
        have H4 := Lib.hid hw4
        have O4 := Lib.hid ho4
        clear hw4 ho4
        go_wp2_with fail
        go_end0
        refine ⟨rfl, ?_, (Ot.ofBelow HB2.out hBw).trans O4.out⟩
        rw [HT.out, HOO.out]
        first | exact H4.out | (have h := H4.out; rw [ByteArray.data_append, Array.toList_append] at h; exact h)
      · have q3 : ((c : Int) == 10) = false := by simp; omega
        by_cases hsp : spcB false (UInt8.ofNat c) = true
        · have hO : oneT false c = [92, UInt8.ofNat c] := by unfold oneT; rw [if_neg h10, if_pos hsp]
          have HOO := Lib.hid hO
          rw [hO] at hl
          have hz := (ib_mem (UInt8.ofNat c) (spL false)).1 ((spL_mem _ _).2 hsp)
          obtain ⟨z, hz'⟩ : ∃ z, Lib.indexByte (spL false) (UInt8.ofNat c) = z := ⟨_, rfl⟩
          rw [hz'] at hz HIB
          have q4 : decide ((0 : Int) ≤ z) = true := decide_eq_true hz
          clear hO h10 hsp hz'
          go_wp2_with fail
          refine HIB.out.mono ?_
          rintro e w3 ⟨rfl, rfl⟩
          go_wp2_with fail
          refine (HPU.out _ w2 HWr2.out (by omega) (by first | exact hl | (rw [ByteArray.size_append]; exact hl))).mono ?_
          rintro e w4 ⟨rfl, hw4, ho4⟩
          have H4 := Lib.hid hw4
          have O4 := Lib.hid ho4
          clear hw4 ho4
          go_wp2_with fail
          go_end0
          refine ⟨rfl, ?_, (Ot.ofBelow HB2.out hBw).trans O4.out⟩
          rw [HT.out, HOO.out]
          first | exact H4.out | (have h := H4.out; rw [ByteArray.data_append, Array.toList_append] at h; exact h)
        · have hO : oneT false c = [UInt8.ofNat c] := by unfold oneT; rw [if_neg h10, if_neg hsp]
          have HOO := Lib.hid hO
          rw [hO] at hl
          rw [(ib_mem (UInt8.ofNat c) (spL false)).2 (fun hm => hsp ((spL_mem _ _).1 hm))] at HIB
          clear hO h10 hsp
          go_wp2_with fail
          refine HIB.out.mono ?_
          rintro e w3 ⟨rfl, rfl⟩
          go_wp2_with fail
          refine (HPU.out _ w2 HWr2.out (by omega) (by first | exact hl | (rw [ByteArray.size_append]; exact hl))).mono ?_
          rintro e w4 ⟨rfl, hw4, ho4⟩
          have H4 := Lib.hid hw4
          have O4 := Lib.hid ho4
          clear hw4 ho4
          go_wp2_with fail
          go_end0
          refine ⟨rfl, ?_, (Ot.ofBelow HB2.out hBw).trans O4.out⟩
          rw [HT.out, HOO.out]
          first | exact H4.out | (have h := H4.out; rw [ByteArray.data_append, Array.toList_append] at h; exact h)
    · have q2 : ((n : Int) != 1) = true := by simp; omega
      have hT : setT false f = 91 :: printS f := by unfold setT; rw [HNN.out, if_neg h256, if_neg h1]
      have HT := Lib.hid hT
      have hl := HLN.out
      rw [hT] at hl
      have hn2 := HN2.out
      unfold seC at hn2
      have v1 := (blk_at hn2 1 rfl).1
      have v2 := (blk_at hn2 2 rfl).1
      have v3 := (blk_at hn2 3 rfl).1
      have v4 := (blk_at hn2 4 rfl).1
      simp only [List.getElem_toArray, List.getElem_cons_zero, List.getElem_cons_succ] at v1 v2 v3 v4
      obtain ⟨ps, hps⟩ : ∃ ps : ByteArray, ⟨(printS f).toArray⟩ = ps := ⟨_, rfl⟩
      have hpl : ps.data.toList = printS f := by rw [← hps]
      have hpz : ps.size = (printS f).length := by rw [← hps]; simp [ByteArray.size]
      have hsl := HSL.out
      rw [hps] at HPR
      have hpb : ps.size ≤ 2820 := by omega
      have HPZ := Lib.hid hpz
      clear hT h256 h1 hn2 hpz hsl hps
      go_wp2_with fail
      refine (HPR.out w2).mono ?_
      rintro e w3 ⟨rfl, hb3⟩
      have HB3 := Lib.hid (HB2.out.trans (hb3.mono HB2.out.size))
      have HWr3 := Lib.hid (HWr2.out.to hb3)
      have hs3 := HB3.out.size
      clear hb3
      go_wp2_with fail
      refine (HPU.out _ w3 HWr3.out (by omega) (by rw [ByteArray.size_append, HPZ.out]; have : ({ data := #[91] } : ByteArray).size = 1 := rfl; rw [List.length_cons] at hl; omega)).mono ?_
      rintro e w4 ⟨rfl, hw4, ho4⟩
      have H4 := Lib.hid hw4
      have O4 := Lib.hid ho4
      clear hw4 ho4
      go_wp2_with fail
      go_end0
      refine ⟨rfl, ?_, (Ot.ofBelow HB3.out hBw).trans O4.out⟩
      rw [HT.out]
      have h := H4.out
      rw [ByteArray.data_append, Array.toList_append, hpl] at h
      exact h

end Go.Proofs.YtlhppbendpnkeaaGreatDoor
