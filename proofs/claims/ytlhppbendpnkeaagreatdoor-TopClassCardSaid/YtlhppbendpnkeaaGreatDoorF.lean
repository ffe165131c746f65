/- sets.Print (printed by genF.py). -/
import Derived.Test.YtlhppbendpnkeaaGreatDoorE
namespace Go.Proofs.YtlhppbendpnkeaaGreatDoor
set_option linter.unusedSimpArgs false
set_option linter.unusedVariables false
open Go.RowKit

theorem Nx.ofOwn {w : World} {base : Nat} {v : Value} {l : List Nat} {e : TypeId} (h : w.ownsRow base e 1 v l.length (natC l)) : ∃ ao cap, v = .slice ao l.length cap ∧ (0 < l.length → ∃ b, ao = some ⟨b, 0, none⟩ ∧ b < w.heap.size ∧ ∀ i (hi : i < l.length), w.cell? ⟨b, i, none⟩ = some (.int .u8 (l[i] : Int))) := by
  rcases h.2 with ⟨rfl, h0⟩ | ⟨g, cap, cur, rfl, hb, hgg, hcap, rest⟩
  · exact ⟨none, 0, by rw [h0], fun h => by omega⟩
  · refine ⟨_, cap, rfl, fun _ => ⟨g, rfl, lt_blk hgg, fun i hi => ?_⟩⟩
    have hc := World.ownsRow.cells h (g := g) rfl i (.int .u8 (l[i] : Int)) (by simp [natC, hi])
    have ea : (⟨g, 0, none⟩ : Addr).add i = ⟨g, i, none⟩ := by unfold Addr.add; split <;> simp_all
    rwa [ea] at hc
theorem natL_mem {f : Nat → Bool} {n x : Nat} : x ∈ natL f n ↔ x < n ∧ f x = true := by simp [natL]
theorem natL_lt {f : Nat → Bool} {n i : Nat} (h : i < (natL f n).length) : (natL f n)[i] < n := (natL_mem.1 (List.getElem_mem h)).1
theorem cat_list (a : ByteArray) (x : Bs) : (a ++ (⟨x.toArray⟩ : ByteArray)).data.toList = a.data.toList ++ x := by
  simp
theorem cat_ba (a b : ByteArray) : (a ++ b).data.toList = a.data.toList ++ b.data.toList := by simp
theorem elem_size (c : Nat) : (⟨(elemB c).toArray⟩ : ByteArray).size ≤ 5 := by
  show (elemB c).toArray.size ≤ 5
  unfold elemB
  split <;> simp
theorem elem_letter (c : Nat) (hc : c < 256) : ∃ E : ByteArray, E.data.toList = elemB c ∧ E.size ≤ 5 ∧ ∀ W, Calls Tryz.prog 13 #[.int .u8 (c : Int)] W fun e w' => e = .returned (.string E) ∧ Below W.heap.size W w' :=
  ⟨⟨(elemB c).toArray⟩, rfl, elem_size c, fun W => element_any c hc W⟩
theorem cat_bs (x y : Bs) : (⟨x.toArray⟩ : ByteArray) ++ ⟨y.toArray⟩ = ⟨(x ++ y).toArray⟩ := by
  apply ba_ext
  rw [cat_list]
def flipF (f : Nat → Bool) : Prop := (128 < cntN f 256 ∧ cntN f 256 < 256) ∨ cntN f 256 = 0
instance (f : Nat → Bool) : Decidable (flipF f) := by unfold flipF; infer_instance
/-- What sets.Print writes. -/
def printS (f : Nat → Bool) : Bs := if flipF f then 94 :: (partsL (natL (fun c => !f c) 256) ++ [93]) else partsL (natL f 256) ++ [93]
def nth (L : List Nat) (j : Nat) : Nat := L.getD j 0
theorem nth_eq {L : List Nat} {j : Nat} (h : j < L.length) : L[j] = nth L j := by simp [nth, h]
theorem natL_rise (f : Nat → Bool) (n j : Nat) (h : j + 1 < (natL f n).length) : nth (natL f n) j < nth (natL f n) (j + 1) := by
  have hp : (natL f n).Pairwise (· < ·) := List.Pairwise.filter _ List.pairwise_lt_range
  have := List.pairwise_iff_getElem.1 hp j (j + 1) (by omega) h (by omega)
  rwa [nth_eq (by omega), nth_eq h] at this
theorem runE_step {l : List Nat} {k : Nat} (hk : k + 1 < l.length) : runE (nth l k) (l.drop (k + 1)) = if nth l (k + 1) = nth l k + 1 then runE (nth l (k + 1)) (l.drop (k + 1 + 1)) + 1 else 0 := by
  rw [List.drop_eq_getElem_cons hk, runE, nth_eq hk]
theorem runE_end {l : List Nat} {k : Nat} (hk : l.length ≤ k + 1) : runE (nth l k) (l.drop (k + 1)) = 0 := by
  rw [List.drop_eq_nil_of_le hk]; rfl
theorem part_step {L : List Nat} {i k : Nat} (hi : i < L.length) (hik : i ≤ k) (h : runE (nth L i) (L.drop (i + 1)) = k - i) : partsL (L.drop i) = partB (nth L i) (k - i) ++ partsL (L.drop (k + 1)) := by
  rw [List.drop_eq_getElem_cons hi, partsL_cons, nth_eq hi, h, List.drop_drop, show i + 1 + (k - i) = k + 1 by omega]

set_option maxRecDepth 8000 in
set_option maxHeartbeats 3200000 in
theorem Print_any (f : Nat → Bool) (w : World) :
    Calls Tryz.prog 5 #[setV f] w fun e w' => e = .returned (.string ⟨(printS f).toArray⟩) ∧ Below w.heap.size w w' := by
  have HCN := Lib.hid (fun W => Count_any f W)
  have hle := cntN_le f 256
  obtain ⟨n, hn⟩ : ∃ n, cntN f 256 = n := ⟨_, rfl⟩
  rw [hn] at HCN hle
  have HK0 : Hid ((w.alloc (.cells #[.int .u64 (sW f 0 : Nat), .int .u64 (sW f 1 : Nat), .int .u64 (sW f 2 : Nat), .int .u64 (sW f 3 : Nat)] 24)).heap[w.heap.size]? = some (.cells (setC f) 24 (0, 0))) := heap_alloc_new _ _
  have HB0 : Hid (Below w.heap.size w (w.alloc (.cells #[.int .u64 (sW f 0 : Nat), .int .u64 (sW f 1 : Nat), .int .u64 (sW f 2 : Nat), .int .u64 (sW f 3 : Nat)] 24))) := bl_alloc _ _
  unfold setV setC at HCN ⊢
  have hcase : n = 0 ∨ (0 < n ∧ n ≤ 128) ∨ (128 < n ∧ n < 256) ∨ n = 256 := by omega
  rcases hcase with hc | hc | hc | hc
  · have hpr : printS f = [94] ++ partsL (natL (fun c => !f c) 256) ++ [93] := by
      unfold printS
      rw [if_pos (by unfold flipF; omega)]
      rfl
    rw [hpr]
    clear hpr hn
    have HBY : Hid (∀ W, Calls Tryz.prog 12 #[.agg (setC (fun c => !f c))] W fun e w' => (∃ v, e = .returned v ∧ w'.ownsRow (W.heap.size + 1) 5 1 v (natL (fun c => !f c) 256).length (natC (natL (fun c => !f c) 256))) ∧ Below W.heap.size W w') := fun W => Bytes_any (fun c => !f c) W
    have hlen := natL_le (fun c => !f c) 256
    obtain ⟨L, hL⟩ : ∃ L, natL (fun c => !f c) 256 = L := ⟨_, rfl⟩
    have HL256 : Hid (∀ i, i < L.length → nth L i < 256) := by subst hL; exact fun i hi => by rw [← nth_eq hi]; exact natL_lt hi
    have HRI : Hid (∀ j, j + 1 < L.length → nth L j < nth L (j + 1)) := by subst hL; exact fun j hj => natL_rise _ _ j hj
    rw [hL] at HBY hlen ⊢
    clear hL
    have b1 : decide ((128 : Int) < (n : Int)) = false := decide_eq_false (by omega)
    have b2 : ¬ (128 : Int) < (n : Int) := by omega
    have b3 : ((n : Int) == 0) = true := by simp; omega
    clear hle hc
    go_enter Tryz.func5, Tryz.ntmps5
    go_wp2_with fail
    refine (HCN.out _).mono ?_
    rintro e w1 ⟨rfl, hb1⟩
    have HK : Hid (w1.heap[w.heap.size]? = some (.cells (setC f) 24 (0, 0))) := blk_below HK0.out hb1 (by simp)
    have HB := Lib.hid (bl_to HB0.out hb1)
    have hsz1 : w.heap.size < w1.heap.size := blk_lt HK.out
    clear hb1 HCN HB0 HK0
    have HNO : Hid (∀ W, Calls Tryz.prog 11 #[.agg (setC f)] W fun e w' => e = .returned (.agg (setC (fun c => !f c))) ∧ Below W.heap.size W w') := fun W => Not_any f W
    go_wp2_with (refine wpList_load_row (by rfl) 24 _ (by rfl) (w.heap.size) (by rfl) 24 _ (0, 0) _ HK.out Tryz.underlying24 (by rfl) info24 ?_)
    refine (HNO.out _).mono ?_
    rintro e w2 ⟨rfl, hb2⟩
    have R1 := run_set (fun c => !f c) (blk_below HK.out hb2 hsz1) rfl
    have S1 := setC_size (fun c => !f c)
    have HB2 : Hid (Below w.heap.size w (w2.setRow w.heap.size (setC (fun c => !f c)))) := below_setRow (bl_to HB.out hb2) (by omega) _
    have HK2 : Hid ((w2.setRow w.heap.size (setC (fun c => !f c))).heap[w.heap.size]? = some (.cells (setC (fun c => !f c)) 24 (0, 0))) := setRow_heap _ _ _ _ _ _ (blk_below HK.out hb2 hsz1)
    clear hb2 HK HB HNO
    obtain ⟨W3, hW3⟩ : ∃ W, w2.setRow w.heap.size (setC (fun c => !f c)) = W := ⟨_, rfl⟩
    rw [hW3] at HB2 HK2 R1
    have HB := HB2
    have HK := HK2
    clear hW3 HB2 HK2 hsz1
    go_wp2_with (refine wpList_load_row (by rfl) 24 _ (by rfl) (w.heap.size) (by rfl) 24 _ (0, 0) _ HK.out Tryz.underlying24 (by rfl) info24 ?_)
    refine (HBY.out _).mono ?_
    rintro e w4 ⟨⟨v, rfl, ho⟩, hb4⟩
    have HB4 := Lib.hid (bl_to HB.out hb4)
    clear hb4 HB HK HBY
    obtain ⟨ao, cap, rfl, hcl⟩ := Nx.ofOwn ho
    have HCL := Lib.hid hcl
    clear hcl ho
    go_wp2_with fail
    go_loopw [3, 6] (fun s3 s6 wr => ∃ (i : Nat) (acc : ByteArray), s6 = .int .i64 (i : Int) ∧ s3 = .string acc ∧ i ≤ L.length ∧ acc.data.toList ++ partsL (L.drop i) = [94] ++ partsL L ∧ acc.size ≤ 16 * i + 1 ∧ Below w4.heap.size w4 wr) (fun _ s6 _ => L.length - (intOf s6).toNat)
    case atStart => exact ⟨0, _, rfl, rfl, Nat.zero_le _, rfl, by decide, Below.refl _ _⟩
    case round =>
      obtain ⟨i, acc, rfl, rfl, hi, hacc, haz, hbw⟩ := hrel
      have HBW := Lib.hid hbw
      have HACC := Lib.hid hacc
      clear hbw hacc
      by_cases hlt : i < L.length
      · obtain ⟨gb, rfl, hgb, hcell⟩ := HCL.out (by omega)
        have HC : Hid (∀ j (hj : j < L.length) (m : Bel w4), m.val.cell? ⟨gb, j, none⟩ = some (.int .u8 (nth L j : Int))) := fun j hj m => bl_cell m.below (by rw [← nth_eq hj]; exact hcell j hj)
        clear hcell
        have l1 : (i : Int) < (L.length : Int) := by omega
        go_wp2_with fail
        clear l1
        go_loopw [7] (fun s7 wr => ∃ k : Nat, s7 = .int .i64 (k : Int) ∧ i ≤ k ∧ k < L.length ∧ runE (nth L i) (L.drop (i + 1)) = (k - i) + runE (nth L k) (L.drop (k + 1)) ∧ nth L k = nth L i + (k - i) ∧ Below w4.heap.size w4 wr) (fun s7 _ => L.length - (intOf s7).toNat)
        case atStart => exact ⟨i, rfl, Nat.le_refl _, hlt, by omega, by omega, HBW.out⟩
        case round =>
          obtain ⟨k, rfl, hik, hk, hrun, hval, hbw2⟩ := hrel
          have HRUN := Lib.hid hrun
          have HVAL := Lib.hid hval
          have HBK := Lib.hid hbw2
          clear hrun hval hbw2 HBW
          have x1 : IntKind.i64.wrap ((k : Int) + 1) = (k : Int) + 1 := wrap_in _ (by omega) (by omega)
          by_cases hk1 : k + 1 < L.length
          · have l2 : (k : Int) + 1 < (L.length : Int) := by omega
            have l3 : decide ((k : Int) + 1 < (L.length : Int)) = true := decide_eq_true l2
            have l4 : (0 : Int) ≤ (k : Int) + 1 := by omega
            have l5 : (k : Int) < (L.length : Int) := by omega
            have l6 : ((k : Int) + 1).toNat = k + 1 := by omega
            have hr := HRI.out k hk1
            have h256 := HL256.out (k + 1) hk1
            have u1 : IntKind.u8.wrap ((nth L k : Int) + 1) = (nth L k : Int) + 1 := IntWalk.u8_in _ ⟨by omega, by omega⟩
            have C0 : ∀ m : Bel w4, m.val.cell? ⟨gb, k, none⟩ = some (.int .u8 (nth L k : Int)) := fun m => HC.out k hk m
            have C1 : ∀ m : Bel w4, m.val.cell? ⟨gb, k + 1, none⟩ = some (.int .u8 (nth L (k + 1) : Int)) := fun m => HC.out (k + 1) hk1 m
            have hst := runE_step hk1
            by_cases hq : nth L (k + 1) = nth L k + 1
            · rw [if_pos hq] at hst
              have HN : Hid (runE (nth L i) (L.drop (i + 1)) = (k + 1 - i) + runE (nth L (k + 1)) (L.drop (k + 1 + 1)) ∧ nth L (k + 1) = nth L i + (k + 1 - i)) := by
                have := HRUN.out
                have := HVAL.out
                exact ⟨by omega, by omega⟩
              have q1 : ((nth L (k + 1) : Int) == (nth L k : Int) + 1) = true := by simp; omega
              clear hst hq hr h256 HRUN HVAL
              go_wp2_with fail
              refine region_bel w4 HBK.out (by kernel_rfl) (by kernel_rfl) ?_
              repeat (go_big_quiet_step (fail))
              refine wpQuiet_nil ?_
              intro m
              clear C0 C1
              go_wp2_with fail
              go_roundw
              case rel => exact ⟨k + 1, by first | rfl | go_num, by omega, hk1, HN.out.1, HN.out.2, m.below⟩
              case measure => simp [intOf]; omega
            · rw [if_neg hq] at hst
              have HPS : Hid (partsL (L.drop i) = partB (nth L i) (k - i) ++ partsL (L.drop (k + 1))) := part_step hlt hik (by have := HRUN.out; omega)
              have q1 : ((nth L (k + 1) : Int) == (nth L k : Int) + 1) = false := by simp; omega
              have q2 : ¬ (nth L (k + 1) : Int) = (nth L k : Int) + 1 := by omega
              clear hst hq hr h256 HRUN
              go_wp2_with fail
              refine region_bel w4 HBK.out (by kernel_rfl) (by kernel_rfl) ?_
              repeat (go_big_quiet_step (fail))
              refine wpQuiet_nil ?_
              intro m
              clear C0 C1 x1 l2 l3 l4 l5 l6 u1
              have y18 : IntKind.i64.wrap ((k : Int) + 1) = ((k + 1 : Nat) : Int) := by rw [wrap_in _ (by omega) (by omega)]; push_cast; rfl
              obtain ⟨E0, hE0, es0, hC0⟩ := elem_letter (nth L i) (HL256.out i hlt)
              obtain ⟨EK, hEK, esk, hCK⟩ := elem_letter (nth L k) (HL256.out k hk)
              have HW0 := Lib.hid hC0
              have HE0 := Lib.hid (fun m : Bel w4 => calls_bel m (hC0 m.val))
              have HEK := Lib.hid (fun m : Bel w4 => calls_bel m (hCK m.val))
              clear hC0 hCK
              have hd : k = i ∨ k = i + 1 ∨ i + 2 ≤ k := by omega
              have I0 : ∀ m : Bel w4, m.val.cell? ⟨gb, i, none⟩ = some (.int .u8 (nth L i : Int)) := fun m => HC.out i hlt m
              have IK : ∀ m : Bel w4, m.val.cell? ⟨gb, k, none⟩ = some (.int .u8 (nth L k : Int)) := fun m => HC.out k hk m
              have HVAL2 := HVAL.out
              obtain ⟨ci, hci⟩ : ∃ c, nth L i = c := ⟨_, rfl⟩
              obtain ⟨ck, hck⟩ : ∃ c, nth L k = c := ⟨_, rfl⟩
              rw [hci] at I0 HE0 HW0 hE0 HPS HVAL2
              rw [hck] at IK HEK hEK HVAL2
              have sz45 : (⟨#[45]⟩ : ByteArray).size = 1 := rfl
              clear hci hck HC
              have z1 : (0 : Int) ≤ (i : Int) := by omega
              have z2 : (0 : Int) ≤ (k : Int) := by omega
              have z3 : (i : Int) < (L.length : Int) := by omega
              have z4 : (k : Int) < (L.length : Int) := by omega
              have z5 : i < L.length := by omega
              have z6 : k < L.length := by omega
              rcases hd with hd | hd | hd
              · have x3 : IntKind.i64.wrap ((k : Int) - (i : Int)) = 0 := by rw [wrap_in _ (by omega) (by omega)]; omega
                have HPB : Hid (acc.data.toList ++ E0.data.toList ++ partsL (L.drop (k + 1)) = [94] ++ partsL L) := by
                  show _ = _
                  rw [hE0, ← HACC.out, HPS.out, List.append_assoc, show partB ci (k - i) = elemB ci by unfold partB; rw [if_pos (by omega)]]
                have CI := I0 m
                clear hd I0 IK HE0 HEK hE0 hEK HVAL2
                go_wp2_with fail
                refine (HW0.out _).mono ?_
                rintro e w5 ⟨rfl, hb5⟩
                have HB5 := Lib.hid (bl_to m.below hb5)
                clear hb5
                go_wp2_with fail
                go_roundw
                case rel => exact ⟨k + 1, _, by first | rfl | go_num, rfl, by omega, by rw [cat_ba]; exact HPB.out, by rw [ByteArray.size_append]; omega, HB5.out⟩
                case measure => simp [intOf]; omega
              · have x3 : IntKind.i64.wrap ((k : Int) - (i : Int)) = 1 := by rw [wrap_in _ (by omega) (by omega)]; omega
                have HPB : Hid (acc.data.toList ++ (E0.data.toList ++ EK.data.toList) ++ partsL (L.drop (k + 1)) = [94] ++ partsL L) := by
                  show _ = _
                  rw [hE0, hEK, ← HACC.out, HPS.out, List.append_assoc, show partB ci (k - i) = elemB ci ++ elemB ck by unfold partB; rw [if_neg (by omega), if_pos (by omega), HVAL2, show k - i = 1 by omega]]
                clear hd hE0 hEK HW0 HVAL2
                go_wp2_with fail
                refine region_bel w4 m.below (by kernel_rfl) (by kernel_rfl) ?_
                repeat (go_big_quiet_step ((first | with_reducible exact HE0.out _ | with_reducible exact HEK.out _)))
                refine wpQuiet_nil ?_
                intro m5
                clear I0 IK HE0 HEK
                go_wp2_with fail
                go_roundw
                case rel => exact ⟨k + 1, _, by first | rfl | go_num, rfl, by omega, by rw [cat_ba, cat_ba]; exact HPB.out, by rw [ByteArray.size_append, ByteArray.size_append]; omega, m5.below⟩
                case measure => simp [intOf]; omega
              · obtain ⟨d, hdd⟩ : ∃ d, k = i + d := ⟨k - i, by omega⟩
                have x3 : IntKind.i64.wrap ((k : Int) - (i : Int)) = (d : Int) := by rw [wrap_in _ (by omega) (by omega)]; omega
                have n0 : ((d : Int) == 0) = false := by simp; omega
                have n1 : ((d : Int) == 1) = false := by simp; omega
                have n2 : ¬ (d : Int) = 0 := by omega
                have n3 : ¬ (d : Int) = 1 := by omega
                have HPB : Hid (acc.data.toList ++ (E0.data.toList ++ [45] ++ EK.data.toList) ++ partsL (L.drop (k + 1)) = [94] ++ partsL L) := by
                  show _ = _
                  rw [hE0, hEK, ← HACC.out, HPS.out, List.append_assoc, show partB ci (k - i) = elemB ci ++ [45] ++ elemB ck by unfold partB; rw [if_neg (by omega), if_neg (by omega), HVAL2, List.append_assoc]; rfl]
                have HDK := Lib.hid hdd
                clear hd hdd hE0 hEK HW0 HVAL2
                go_wp2_with fail
                refine region_bel w4 m.below (by kernel_rfl) (by kernel_rfl) ?_
                repeat (go_big_quiet_step ((first | with_reducible exact HE0.out _ | with_reducible exact HEK.out _)))
                refine wpQuiet_nil ?_
                intro m5
                clear I0 IK HE0 HEK
                go_wp2_with fail
                go_roundw
                case rel => exact ⟨k + 1, _, by first | rfl | go_num, rfl, by omega, by rw [cat_ba, cat_ba, cat_ba]; exact HPB.out, by rw [ByteArray.size_append, ByteArray.size_append, ByteArray.size_append]; have : (⟨#[45]⟩ : ByteArray).size = 1 := rfl; omega, m5.below⟩
                case measure => simp [intOf]; omega
          · have l2 : ¬ (k : Int) + 1 < (L.length : Int) := by omega
            have l3 : decide ((k : Int) + 1 < (L.length : Int)) = false := decide_eq_false l2
            have HPS : Hid (partsL (L.drop i) = partB (nth L i) (k - i) ++ partsL (L.drop (k + 1))) := part_step hlt hik (by have := HRUN.out; have := runE_end (l := L) (k := k) (by omega); omega)
            clear HRUN
            go_wp2_with fail
            refine region_bel w4 HBK.out (by kernel_rfl) (by kernel_rfl) ?_
            repeat (go_big_quiet_step (fail))
            refine wpQuiet_nil ?_
            intro m
            clear x1
            have y18 : IntKind.i64.wrap ((k : Int) + 1) = ((k + 1 : Nat) : Int) := by rw [wrap_in _ (by omega) (by omega)]; push_cast; rfl
            obtain ⟨E0, hE0, es0, hC0⟩ := elem_letter (nth L i) (HL256.out i hlt)
            obtain ⟨EK, hEK, esk, hCK⟩ := elem_letter (nth L k) (HL256.out k hk)
            have HW0 := Lib.hid hC0
            have HE0 := Lib.hid (fun m : Bel w4 => calls_bel m (hC0 m.val))
            have HEK := Lib.hid (fun m : Bel w4 => calls_bel m (hCK m.val))
            clear hC0 hCK
            have hd : k = i ∨ k = i + 1 ∨ i + 2 ≤ k := by omega
            have I0 : ∀ m : Bel w4, m.val.cell? ⟨gb, i, none⟩ = some (.int .u8 (nth L i : Int)) := fun m => HC.out i hlt m
            have IK : ∀ m : Bel w4, m.val.cell? ⟨gb, k, none⟩ = some (.int .u8 (nth L k : Int)) := fun m => HC.out k hk m
            have HVAL2 := HVAL.out
            obtain ⟨ci, hci⟩ : ∃ c, nth L i = c := ⟨_, rfl⟩
            obtain ⟨ck, hck⟩ : ∃ c, nth L k = c := ⟨_, rfl⟩
            rw [hci] at I0 HE0 HW0 hE0 HPS HVAL2
            rw [hck] at IK HEK hEK HVAL2
            have sz45 : (⟨#[45]⟩ : ByteArray).size = 1 := rfl
            clear hci hck HC
            have z1 : (0 : Int) ≤ (i : Int) := by omega
            have z2 : (0 : Int) ≤ (k : Int) := by omega
            have z3 : (i : Int) < (L.length : Int) := by omega
            have z4 : (k : Int) < (L.length : Int) := by omega
            have z5 : i < L.length := by omega
            have z6 : k < L.length := by omega
            rcases hd with hd | hd | hd
            · have x3 : IntKind.i64.wrap ((k : Int) - (i : Int)) = 0 := by rw [wrap_in _ (by omega) (by omega)]; omega
              have HPB : Hid (acc.data.toList ++ E0.data.toList ++ partsL (L.drop (k + 1)) = [94] ++ partsL L) := by
                show _ = _
                rw [hE0, ← HACC.out, HPS.out, List.append_assoc, show partB ci (k - i) = elemB ci by unfold partB; rw [if_pos (by omega)]]
              have CI := I0 m
              clear hd I0 IK HE0 HEK hE0 hEK HVAL2
              go_wp2_with fail
              refine (HW0.out _).mono ?_
              rintro e w5 ⟨rfl, hb5⟩
              have HB5 := Lib.hid (bl_to m.below hb5)
              clear hb5
              go_wp2_with fail
              go_roundw
              case rel => exact ⟨k + 1, _, by first | rfl | go_num, rfl, by omega, by rw [cat_ba]; exact HPB.out, by rw [ByteArray.size_append]; omega, HB5.out⟩
              case measure => simp [intOf]; omega
            · have x3 : IntKind.i64.wrap ((k : Int) - (i : Int)) = 1 := by rw [wrap_in _ (by omega) (by omega)]; omega
              have HPB : Hid (acc.data.toList ++ (E0.data.toList ++ EK.data.toList) ++ partsL (L.drop (k + 1)) = [94] ++ partsL L) := by
                show _ = _
                rw [hE0, hEK, ← HACC.out, HPS.out, List.append_assoc, show partB ci (k - i) = elemB ci ++ elemB ck by unfold partB; rw [if_neg (by omega), if_pos (by omega), HVAL2, show k - i = 1 by omega]]
              clear hd hE0 hEK HW0 HVAL2
              go_wp2_with fail
              refine region_bel w4 m.below (by kernel_rfl) (by kernel_rfl) ?_
              repeat (go_big_quiet_step ((first | with_reducible exact HE0.out _ | with_reducible exact HEK.out _)))
              refine wpQuiet_nil ?_
              intro m5
              clear I0 IK HE0 HEK
              go_wp2_with fail
              go_roundw
              case rel => exact ⟨k + 1, _, by first | rfl | go_num, rfl, by omega, by rw [cat_ba, cat_ba]; exact HPB.out, by rw [ByteArray.size_append, ByteArray.size_append]; omega, m5.below⟩
              case measure => simp [intOf]; omega
            · obtain ⟨d, hdd⟩ : ∃ d, k = i + d := ⟨k - i, by omega⟩
              have x3 : IntKind.i64.wrap ((k : Int) - (i : Int)) = (d : Int) := by rw [wrap_in _ (by omega) (by omega)]; omega
              have n0 : ((d : Int) == 0) = false := by simp; omega
              have n1 : ((d : Int) == 1) = false := by simp; omega
              have n2 : ¬ (d : Int) = 0 := by omega
              have n3 : ¬ (d : Int) = 1 := by omega
              have HPB : Hid (acc.data.toList ++ (E0.data.toList ++ [45] ++ EK.data.toList) ++ partsL (L.drop (k + 1)) = [94] ++ partsL L) := by
                show _ = _
                rw [hE0, hEK, ← HACC.out, HPS.out, List.append_assoc, show partB ci (k - i) = elemB ci ++ [45] ++ elemB ck by unfold partB; rw [if_neg (by omega), if_neg (by omega), HVAL2, List.append_assoc]; rfl]
              have HDK := Lib.hid hdd
              clear hd hdd hE0 hEK HW0 HVAL2
              go_wp2_with fail
              refine region_bel w4 m.below (by kernel_rfl) (by kernel_rfl) ?_
              repeat (go_big_quiet_step ((first | with_reducible exact HE0.out _ | with_reducible exact HEK.out _)))
              refine wpQuiet_nil ?_
              intro m5
              clear I0 IK HE0 HEK
              go_wp2_with fail
              go_roundw
              case rel => exact ⟨k + 1, _, by first | rfl | go_num, rfl, by omega, by rw [cat_ba, cat_ba, cat_ba]; exact HPB.out, by rw [ByteArray.size_append, ByteArray.size_append, ByteArray.size_append]; have : (⟨#[45]⟩ : ByteArray).size = 1 := rfl; omega, m5.below⟩
              case measure => simp [intOf]; omega
      · obtain rfl : i = L.length := by omega
        have l1 : ¬ (L.length : Int) < (L.length : Int) := by omega
        go_wp2_with fail
        go_ret
        refine ⟨?_, bl_to HB4.out HBW.out⟩
        have h := HACC.out
        rw [List.drop_eq_nil_of_le (Nat.le_refl _), partsL_nil, List.append_nil] at h
        have e : acc ++ (⟨#[93]⟩ : ByteArray) = ⟨([94] ++ partsL L ++ [93]).toArray⟩ := ba_ext (by rw [show (⟨#[93]⟩ : ByteArray) = ⟨([93] : Bs).toArray⟩ from rfl, cat_list, h])
        exact congrArg (fun x => Ending.returned (.string x)) e
  · have hpr : printS f = [] ++ partsL (natL f 256) ++ [93] := by
      unfold printS
      rw [if_neg (by unfold flipF; omega)]
      rfl
    rw [hpr]
    clear hpr hn
    have HBY : Hid (∀ W, Calls Tryz.prog 12 #[.agg (setC f)] W fun e w' => (∃ v, e = .returned v ∧ w'.ownsRow (W.heap.size + 1) 5 1 v (natL f 256).length (natC (natL f 256))) ∧ Below W.heap.size W w') := fun W => Bytes_any f W
    have hlen := natL_le f 256
    obtain ⟨L, hL⟩ : ∃ L, natL f 256 = L := ⟨_, rfl⟩
    have HL256 : Hid (∀ i, i < L.length → nth L i < 256) := by subst hL; exact fun i hi => by rw [← nth_eq hi]; exact natL_lt hi
    have HRI : Hid (∀ j, j + 1 < L.length → nth L j < nth L (j + 1)) := by subst hL; exact fun j hj => natL_rise _ _ j hj
    rw [hL] at HBY hlen ⊢
    clear hL
    have b1 : decide ((128 : Int) < (n : Int)) = false := decide_eq_false (by omega)
    have b2 : ¬ (128 : Int) < (n : Int) := by omega
    have b3 : ((n : Int) == 0) = false := by simp; omega
    have b4 : ¬ (n : Int) = 0 := by omega
    clear hle hc
    go_enter Tryz.func5, Tryz.ntmps5
    go_wp2_with fail
    refine (HCN.out _).mono ?_
    rintro e w1 ⟨rfl, hb1⟩
    have HK : Hid (w1.heap[w.heap.size]? = some (.cells (setC f) 24 (0, 0))) := blk_below HK0.out hb1 (by simp)
    have HB := Lib.hid (bl_to HB0.out hb1)
    have hsz1 : w.heap.size < w1.heap.size := blk_lt HK.out
    clear hb1 HCN HB0 HK0
    go_wp2_with (refine wpList_load_row (by rfl) 24 _ (by rfl) (w.heap.size) (by rfl) 24 _ (0, 0) _ HK.out Tryz.underlying24 (by rfl) info24 ?_)
    refine (HBY.out _).mono ?_
    rintro e w4 ⟨⟨v, rfl, ho⟩, hb4⟩
    have HB4 := Lib.hid (bl_to HB.out hb4)
    clear hb4 HB HK HBY
    obtain ⟨ao, cap, rfl, hcl⟩ := Nx.ofOwn ho
    have HCL := Lib.hid hcl
    clear hcl ho
    go_wp2_with fail
    go_loopw [3, 6] (fun s3 s6 wr => ∃ (i : Nat) (acc : ByteArray), s6 = .int .i64 (i : Int) ∧ s3 = .string acc ∧ i ≤ L.length ∧ acc.data.toList ++ partsL (L.drop i) = [] ++ partsL L ∧ acc.size ≤ 16 * i + 1 ∧ Below w4.heap.size w4 wr) (fun _ s6 _ => L.length - (intOf s6).toNat)
    case atStart => exact ⟨0, _, rfl, rfl, Nat.zero_le _, rfl, by decide, Below.refl _ _⟩
    case round =>
      obtain ⟨i, acc, rfl, rfl, hi, hacc, haz, hbw⟩ := hrel
      have HBW := Lib.hid hbw
      have HACC := Lib.hid hacc
      clear hbw hacc
      by_cases hlt : i < L.length
      · obtain ⟨gb, rfl, hgb, hcell⟩ := HCL.out (by omega)
        have HC : Hid (∀ j (hj : j < L.length) (m : Bel w4), m.val.cell? ⟨gb, j, none⟩ = some (.int .u8 (nth L j : Int))) := fun j hj m => bl_cell m.below (by rw [← nth_eq hj]; exact hcell j hj)
        clear hcell
        have l1 : (i : Int) < (L.length : Int) := by omega
        go_wp2_with fail
        clear l1
        go_loopw [7] (fun s7 wr => ∃ k : Nat, s7 = .int .i64 (k : Int) ∧ i ≤ k ∧ k < L.length ∧ runE (nth L i) (L.drop (i + 1)) = (k - i) + runE (nth L k) (L.drop (k + 1)) ∧ nth L k = nth L i + (k - i) ∧ Below w4.heap.size w4 wr) (fun s7 _ => L.length - (intOf s7).toNat)
        case atStart => exact ⟨i, rfl, Nat.le_refl _, hlt, by omega, by omega, HBW.out⟩
        case round =>
          obtain ⟨k, rfl, hik, hk, hrun, hval, hbw2⟩ := hrel
          have HRUN := Lib.hid hrun
          have HVAL := Lib.hid hval
          have HBK := Lib.hid hbw2
          clear hrun hval hbw2 HBW
          have x1 : IntKind.i64.wrap ((k : Int) + 1) = (k : Int) + 1 := wrap_in _ (by omega) (by omega)
          by_cases hk1 : k + 1 < L.length
          · have l2 : (k : Int) + 1 < (L.length : Int) := by omega
            have l3 : decide ((k : Int) + 1 < (L.length : Int)) = true := decide_eq_true l2
            have l4 : (0 : Int) ≤ (k : Int) + 1 := by omega
            have l5 : (k : Int) < (L.length : Int) := by omega
            have l6 : ((k : Int) + 1).toNat = k + 1 := by omega
            have hr := HRI.out k hk1
            have h256 := HL256.out (k + 1) hk1
            have u1 : IntKind.u8.wrap ((nth L k : Int) + 1) = (nth L k : Int) + 1 := IntWalk.u8_in _ ⟨by omega, by omega⟩
            have C0 : ∀ m : Bel w4, m.val.cell? ⟨gb, k, none⟩ = some (.int .u8 (nth L k : Int)) := fun m => HC.out k hk m
            have C1 : ∀ m : Bel w4, m.val.cell? ⟨gb, k + 1, none⟩ = some (.int .u8 (nth L (k + 1) : Int)) := fun m => HC.out (k + 1) hk1 m
            have hst := runE_step hk1
            by_cases hq : nth L (k + 1) = nth L k + 1
            · rw [if_pos hq] at hst
              have HN : Hid (runE (nth L i) (L.drop (i + 1)) = (k + 1 - i) + runE (nth L (k + 1)) (L.drop (k + 1 + 1)) ∧ nth L (k + 1) = nth L i + (k + 1 - i)) := by
                have := HRUN.out
                have := HVAL.out
                exact ⟨by omega, by omega⟩
              have q1 : ((nth L (k + 1) : Int) == (nth L k : Int) + 1) = true := by simp; omega
              clear hst hq hr h256 HRUN HVAL
              go_wp2_with fail
              refine region_bel w4 HBK.out (by kernel_rfl) (by kernel_rfl) ?_
              repeat (go_big_quiet_step (fail))
              refine wpQuiet_nil ?_
              intro m
              clear C0 C1
              go_wp2_with fail
              go_roundw
              case rel => exact ⟨k + 1, by first | rfl | go_num, by omega, hk1, HN.out.1, HN.out.2, m.below⟩
              case measure => simp [intOf]; omega
            · rw [if_neg hq] at hst
              have HPS : Hid (partsL (L.drop i) = partB (nth L i) (k - i) ++ partsL (L.drop (k + 1))) := part_step hlt hik (by have := HRUN.out; omega)
              have q1 : ((nth L (k + 1) : Int) == (nth L k : Int) + 1) = false := by simp; omega
              have q2 : ¬ (nth L (k + 1) : Int) = (nth L k : Int) + 1 := by omega
              clear hst hq hr h256 HRUN
              go_wp2_with fail
              refine region_bel w4 HBK.out (by kernel_rfl) (by kernel_rfl) ?_
              repeat (go_big_quiet_step (fail))
              refine wpQuiet_nil ?_
              intro m
              clear C0 C1 x1 l2 l3 l4 l5 l6 u1
              have y18 : IntKind.i64.wrap ((k : Int) + 1) = ((k + 1 : Nat) : Int) := by rw [wrap_in _ (by omega) (by omega)]; push_cast; rfl
              obtain ⟨E0, hE0, es0, hC0⟩ := elem_letter (nth L i) (HL256.out i hlt)
              obtain ⟨EK, hEK, esk, hCK⟩ := elem_letter (nth L k) (HL256.out k hk)
              have HW0 := Lib.hid hC0
              have HE0 := Lib.hid (fun m : Bel w4 => calls_bel m (hC0 m.val))
              have HEK := Lib.hid (fun m : Bel w4 => calls_bel m (hCK m.val))
              clear hC0 hCK
              have hd : k = i ∨ k = i + 1 ∨ i + 2 ≤ k := by omega
              have I0 : ∀ m : Bel w4, m.val.cell? ⟨gb, i, none⟩ = some (.int .u8 (nth L i : Int)) := fun m => HC.out i hlt m
              have IK : ∀ m : Bel w4, m.val.cell? ⟨gb, k, none⟩ = some (.int .u8 (nth L k : Int)) := fun m => HC.out k hk m
              have HVAL2 := HVAL.out
              obtain ⟨ci, hci⟩ : ∃ c, nth L i = c := ⟨_, rfl⟩
              obtain ⟨ck, hck⟩ : ∃ c, nth L k = c := ⟨_, rfl⟩
              rw [hci] at I0 HE0 HW0 hE0 HPS HVAL2
              rw [hck] at IK HEK hEK HVAL2
              have sz45 : (⟨#[45]⟩ : ByteArray).size = 1 := rfl
              clear hci hck HC
              have z1 : (0 : Int) ≤ (i : Int) := by omega
              have z2 : (0 : Int) ≤ (k : Int) := by omega
              have z3 : (i : Int) < (L.length : Int) := by omega
              have z4 : (k : Int) < (L.length : Int) := by omega
              have z5 : i < L.length := by omega
              have z6 : k < L.length := by omega
              rcases hd with hd | hd | hd
              · have x3 : IntKind.i64.wrap ((k : Int) - (i : Int)) = 0 := by rw [wrap_in _ (by omega) (by omega)]; omega
                have HPB : Hid (acc.data.toList ++ E0.data.toList ++ partsL (L.drop (k + 1)) = [] ++ partsL L) := by
                  show _ = _
                  rw [hE0, ← HACC.out, HPS.out, List.append_assoc, show partB ci (k - i) = elemB ci by unfold partB; rw [if_pos (by omega)]]
                have CI := I0 m
                clear hd I0 IK HE0 HEK hE0 hEK HVAL2
                go_wp2_with fail
                refine (HW0.out _).mono ?_
                rintro e w5 ⟨rfl, hb5⟩
                have HB5 := Lib.hid (bl_to m.below hb5)
                clear hb5
                go_wp2_with fail
                go_roundw
                case rel => exact ⟨k + 1, _, by first | rfl | go_num, rfl, by omega, by rw [cat_ba]; exact HPB.out, by rw [ByteArray.size_append]; omega, HB5.out⟩
                case measure => simp [intOf]; omega
              · have x3 : IntKind.i64.wrap ((k : Int) - (i : Int)) = 1 := by rw [wrap_in _ (by omega) (by omega)]; omega
                have HPB : Hid (acc.data.toList ++ (E0.data.toList ++ EK.data.toList) ++ partsL (L.drop (k + 1)) = [] ++ partsL L) := by
                  show _ = _
                  rw [hE0, hEK, ← HACC.out, HPS.out, List.append_assoc, show partB ci (k - i) = elemB ci ++ elemB ck by unfold partB; rw [if_neg (by omega), if_pos (by omega), HVAL2, show k - i = 1 by omega]]
                clear hd hE0 hEK HW0 HVAL2
                go_wp2_with fail
                refine region_bel w4 m.below (by kernel_rfl) (by kernel_rfl) ?_
                repeat (go_big_quiet_step ((first | with_reducible exact HE0.out _ | with_reducible exact HEK.out _)))
                refine wpQuiet_nil ?_
                intro m5
                clear I0 IK HE0 HEK
                go_wp2_with fail
                go_roundw
                case rel => exact ⟨k + 1, _, by first | rfl | go_num, rfl, by omega, by rw [cat_ba, cat_ba]; exact HPB.out, by rw [ByteArray.size_append, ByteArray.size_append]; omega, m5.below⟩
                case measure => simp [intOf]; omega
              · obtain ⟨d, hdd⟩ : ∃ d, k = i + d := ⟨k - i, by omega⟩
                have x3 : IntKind.i64.wrap ((k : Int) - (i : Int)) = (d : Int) := by rw [wrap_in _ (by omega) (by omega)]; omega
                have n0 : ((d : Int) == 0) = false := by simp; omega
                have n1 : ((d : Int) == 1) = false := by simp; omega
                have n2 : ¬ (d : Int) = 0 := by omega
                have n3 : ¬ (d : Int) = 1 := by omega
                have HPB : Hid (acc.data.toList ++ (E0.data.toList ++ [45] ++ EK.data.toList) ++ partsL (L.drop (k + 1)) = [] ++ partsL L) := by
                  show _ = _
                  rw [hE0, hEK, ← HACC.out, HPS.out, List.append_assoc, show partB ci (k - i) = elemB ci ++ [45] ++ elemB ck by unfold partB; rw [if_neg (by omega), if_neg (by omega), HVAL2, List.append_assoc]; rfl]
                have HDK := Lib.hid hdd
                clear hd hdd hE0 hEK HW0 HVAL2
                go_wp2_with fail
                refine region_bel w4 m.below (by kernel_rfl) (by kernel_rfl) ?_
                repeat (go_big_quiet_step ((first | with_reducible exact HE0.out _ | with_reducible exact HEK.out _)))
                refine wpQuiet_nil ?_
                intro m5
                clear I0 IK HE0 HEK
                go_wp2_with fail
                go_roundw
                case rel => exact ⟨k + 1, _, by first | rfl | go_num, rfl, by omega, by rw [cat_ba, cat_ba, cat_ba]; exact HPB.out, by rw [ByteArray.size_append, ByteArray.size_append, ByteArray.size_append]; have : (⟨#[45]⟩ : ByteArray).size = 1 := rfl; omega, m5.below⟩
                case measure => simp [intOf]; omega
          · have l2 : ¬ (k : Int) + 1 < (L.length : Int) := by omega
            have l3 : decide ((k : Int) + 1 < (L.length : Int)) = false := decide_eq_false l2
            have HPS : Hid (partsL (L.drop i) = partB (nth L i) (k - i) ++ partsL (L.drop (k + 1))) := part_step hlt hik (by have := HRUN.out; have := runE_end (l := L) (k := k) (by omega); omega)
            clear HRUN
            go_wp2_with fail
            refine region_bel w4 HBK.out (by kernel_rfl) (by kernel_rfl) ?_
            repeat (go_big_quiet_step (fail))
            refine wpQuiet_nil ?_
            intro m
            clear x1
            have y18 : IntKind.i64.wrap ((k : Int) + 1) = ((k + 1 : Nat) : Int) := by rw [wrap_in _ (by omega) (by omega)]; push_cast; rfl
            obtain ⟨E0, hE0, es0, hC0⟩ := elem_letter (nth L i) (HL256.out i hlt)
            obtain ⟨EK, hEK, esk, hCK⟩ := elem_letter (nth L k) (HL256.out k hk)
            have HW0 := Lib.hid hC0
            have HE0 := Lib.hid (fun m : Bel w4 => calls_bel m (hC0 m.val))
            have HEK := Lib.hid (fun m : Bel w4 => calls_bel m (hCK m.val))
            clear hC0 hCK
            have hd : k = i ∨ k = i + 1 ∨ i + 2 ≤ k := by omega
            have I0 : ∀ m : Bel w4, m.val.cell? ⟨gb, i, none⟩ = some (.int .u8 (nth L i : Int)) := fun m => HC.out i hlt m
            have IK : ∀ m : Bel w4, m.val.cell? ⟨gb, k, none⟩ = some (.int .u8 (nth L k : Int)) := fun m => HC.out k hk m
            have HVAL2 := HVAL.out
            obtain ⟨ci, hci⟩ : ∃ c, nth L i = c := ⟨_, rfl⟩
            obtain ⟨ck, hck⟩ : ∃ c, nth L k = c := ⟨_, rfl⟩
            rw [hci] at I0 HE0 HW0 hE0 HPS HVAL2
            rw [hck] at IK HEK hEK HVAL2
            have sz45 : (⟨#[45]⟩ : ByteArray).size = 1 := rfl
            clear hci hck HC
            have z1 : (0 : Int) ≤ (i : Int) := by omega
            have z2 : (0 : Int) ≤ (k : Int) := by omega
            have z3 : (i : Int) < (L.length : Int) := by omega
            have z4 : (k : Int) < (L.length : Int) := by omega
            have z5 : i < L.length := by omega
            have z6 : k < L.length := by omega
            rcases hd with hd | hd | hd
            · have x3 : IntKind.i64.wrap ((k : Int) - (i : Int)) = 0 := by rw [wrap_in _ (by omega) (by omega)]; omega
              have HPB : Hid (acc.data.toList ++ E0.data.toList ++ partsL (L.drop (k + 1)) = [] ++ partsL L) := by
                show _ = _
                rw [hE0, ← HACC.out, HPS.out, List.append_assoc, show partB ci (k - i) = elemB ci by unfold partB; rw [if_pos (by omega)]]
              have CI := I0 m
              clear hd I0 IK HE0 HEK hE0 hEK HVAL2
              go_wp2_with fail
              refine (HW0.out _).mono ?_
              rintro e w5 ⟨rfl, hb5⟩
              have HB5 := Lib.hid (bl_to m.below hb5)
              clear hb5
              go_wp2_with fail
              go_roundw
              case rel => exact ⟨k + 1, _, by first | rfl | go_num, rfl, by omega, by rw [cat_ba]; exact HPB.out, by rw [ByteArray.size_append]; omega, HB5.out⟩
              case measure => simp [intOf]; omega
            · have x3 : IntKind.i64.wrap ((k : Int) - (i : Int)) = 1 := by rw [wrap_in _ (by omega) (by omega)]; omega
              have HPB : Hid (acc.data.toList ++ (E0.data.toList ++ EK.data.toList) ++ partsL (L.drop (k + 1)) = [] ++ partsL L) := by
                show _ = _
                rw [hE0, hEK, ← HACC.out, HPS.out, List.append_assoc, show partB ci (k - i) = elemB ci ++ elemB ck by unfold partB; rw [if_neg (by omega), if_pos (by omega), HVAL2, show k - i = 1 by omega]]
              clear hd hE0 hEK HW0 HVAL2
              go_wp2_with fail
              refine region_bel w4 m.below (by kernel_rfl) (by kernel_rfl) ?_
              repeat (go_big_quiet_step ((first | with_reducible exact HE0.out _ | with_reducible exact HEK.out _)))
              refine wpQuiet_nil ?_
              intro m5
              clear I0 IK HE0 HEK
              go_wp2_with fail
              go_roundw
              case rel => exact ⟨k + 1, _, by first | rfl | go_num, rfl, by omega, by rw [cat_ba, cat_ba]; exact HPB.out, by rw [ByteArray.size_append, ByteArray.size_append]; omega, m5.below⟩
              case measure => simp [intOf]; omega
            · obtain ⟨d, hdd⟩ : ∃ d, k = i + d := ⟨k - i, by omega⟩
              have x3 : IntKind.i64.wrap ((k : Int) - (i : Int)) = (d : Int) := by rw [wrap_in _ (by omega) (by omega)]; omega
              have n0 : ((d : Int) == 0) = false := by simp; omega
              have n1 : ((d : Int) == 1) = false := by simp; omega
              have n2 : ¬ (d : Int) = 0 := by omega
              have n3 : ¬ (d : Int) = 1 := by omega
              have HPB : Hid (acc.data.toList ++ (E0.data.toList ++ [45] ++ EK.data.toList) ++ partsL (L.drop (k + 1)) = [] ++ partsL L) := by
                show _ = _
                rw [hE0, hEK, ← HACC.out, HPS.out, List.append_assoc, show partB ci (k - i) = elemB ci ++ [45] ++ elemB ck by unfold partB; rw [if_neg (by omega), if_neg (by omega), HVAL2, List.append_assoc]; rfl]
              have HDK := Lib.hid hdd
              clear hd hdd hE0 hEK HW0 HVAL2
              go_wp2_with fail
              refine region_bel w4 m.below (by kernel_rfl) (by kernel_rfl) ?_
              repeat (go_big_quiet_step ((first | with_reducible exact HE0.out _ | with_reducible exact HEK.out _)))
              refine wpQuiet_nil ?_
              intro m5
              clear I0 IK HE0 HEK
              go_wp2_with fail
              go_roundw
              case rel => exact ⟨k + 1, _, by first | rfl | go_num, rfl, by omega, by rw [cat_ba, cat_ba, cat_ba]; exact HPB.out, by rw [ByteArray.size_append, ByteArray.size_append, ByteArray.size_append]; have : (⟨#[45]⟩ : ByteArray).size = 1 := rfl; omega, m5.below⟩
              case measure => simp [intOf]; omega
      · obtain rfl : i = L.length := by omega
        have l1 : ¬ (L.length : Int) < (L.length : Int) := by omega
        go_wp2_with fail
        go_ret
        refine ⟨?_, bl_to HB4.out HBW.out⟩
        have h := HACC.out
        rw [List.drop_eq_nil_of_le (Nat.le_refl _), partsL_nil, List.append_nil] at h
        have e : acc ++ (⟨#[93]⟩ : ByteArray) = ⟨([] ++ partsL L ++ [93]).toArray⟩ := ba_ext (by rw [show (⟨#[93]⟩ : ByteArray) = ⟨([93] : Bs).toArray⟩ from rfl, cat_list, h])
        exact congrArg (fun x => Ending.returned (.string x)) e
  · have hpr : printS f = [94] ++ partsL (natL (fun c => !f c) 256) ++ [93] := by
      unfold printS
      rw [if_pos (by unfold flipF; omega)]
      rfl
    rw [hpr]
    clear hpr hn
    have HBY : Hid (∀ W, Calls Tryz.prog 12 #[.agg (setC (fun c => !f c))] W fun e w' => (∃ v, e = .returned v ∧ w'.ownsRow (W.heap.size + 1) 5 1 v (natL (fun c => !f c) 256).length (natC (natL (fun c => !f c) 256))) ∧ Below W.heap.size W w') := fun W => Bytes_any (fun c => !f c) W
    have hlen := natL_le (fun c => !f c) 256
    obtain ⟨L, hL⟩ : ∃ L, natL (fun c => !f c) 256 = L := ⟨_, rfl⟩
    have HL256 : Hid (∀ i, i < L.length → nth L i < 256) := by subst hL; exact fun i hi => by rw [← nth_eq hi]; exact natL_lt hi
    have HRI : Hid (∀ j, j + 1 < L.length → nth L j < nth L (j + 1)) := by subst hL; exact fun j hj => natL_rise _ _ j hj
    rw [hL] at HBY hlen ⊢
    clear hL
    have b1 : decide ((128 : Int) < (n : Int)) = true := decide_eq_true (by omega)
    have b2 : (128 : Int) < (n : Int) := by omega
    have b3 : (n : Int) < 256 := by omega
    have b4 : decide ((n : Int) < 256) = true := decide_eq_true (by omega)
    clear hle hc
    go_enter Tryz.func5, Tryz.ntmps5
    go_wp2_with fail
    refine (HCN.out _).mono ?_
    rintro e w1 ⟨rfl, hb1⟩
    have HK : Hid (w1.heap[w.heap.size]? = some (.cells (setC f) 24 (0, 0))) := blk_below HK0.out hb1 (by simp)
    have HB := Lib.hid (bl_to HB0.out hb1)
    have hsz1 : w.heap.size < w1.heap.size := blk_lt HK.out
    clear hb1 HCN HB0 HK0
    have HNO : Hid (∀ W, Calls Tryz.prog 11 #[.agg (setC f)] W fun e w' => e = .returned (.agg (setC (fun c => !f c))) ∧ Below W.heap.size W w') := fun W => Not_any f W
    go_wp2_with (refine wpList_load_row (by rfl) 24 _ (by rfl) (w.heap.size) (by rfl) 24 _ (0, 0) _ HK.out Tryz.underlying24 (by rfl) info24 ?_)
    refine (HNO.out _).mono ?_
    rintro e w2 ⟨rfl, hb2⟩
    have R1 := run_set (fun c => !f c) (blk_below HK.out hb2 hsz1) rfl
    have S1 := setC_size (fun c => !f c)
    have HB2 : Hid (Below w.heap.size w (w2.setRow w.heap.size (setC (fun c => !f c)))) := below_setRow (bl_to HB.out hb2) (by omega) _
    have HK2 : Hid ((w2.setRow w.heap.size (setC (fun c => !f c))).heap[w.heap.size]? = some (.cells (setC (fun c => !f c)) 24 (0, 0))) := setRow_heap _ _ _ _ _ _ (blk_below HK.out hb2 hsz1)
    clear hb2 HK HB HNO
    obtain ⟨W3, hW3⟩ : ∃ W, w2.setRow w.heap.size (setC (fun c => !f c)) = W := ⟨_, rfl⟩
    rw [hW3] at HB2 HK2 R1
    have HB := HB2
    have HK := HK2
    clear hW3 HB2 HK2 hsz1
    go_wp2_with (refine wpList_load_row (by rfl) 24 _ (by rfl) (w.heap.size) (by rfl) 24 _ (0, 0) _ HK.out Tryz.underlying24 (by rfl) info24 ?_)
    refine (HBY.out _).mono ?_
    rintro e w4 ⟨⟨v, rfl, ho⟩, hb4⟩
    have HB4 := Lib.hid (bl_to HB.out hb4)
    clear hb4 HB HK HBY
    obtain ⟨ao, cap, rfl, hcl⟩ := Nx.ofOwn ho
    have HCL := Lib.hid hcl
    clear hcl ho
    go_wp2_with fail
    go_loopw [3, 6] (fun s3 s6 wr => ∃ (i : Nat) (acc : ByteArray), s6 = .int .i64 (i : Int) ∧ s3 = .string acc ∧ i ≤ L.length ∧ acc.data.toList ++ partsL (L.drop i) = [94] ++ partsL L ∧ acc.size ≤ 16 * i + 1 ∧ Below w4.heap.size w4 wr) (fun _ s6 _ => L.length - (intOf s6).toNat)
    case atStart => exact ⟨0, _, rfl, rfl, Nat.zero_le _, rfl, by decide, Below.refl _ _⟩
    case round =>
      obtain ⟨i, acc, rfl, rfl, hi, hacc, haz, hbw⟩ := hrel
      have HBW := Lib.hid hbw
      have HACC := Lib.hid hacc
      clear hbw hacc
      by_cases hlt : i < L.length
      · obtain ⟨gb, rfl, hgb, hcell⟩ := HCL.out (by omega)
        have HC : Hid (∀ j (hj : j < L.length) (m : Bel w4), m.val.cell? ⟨gb, j, none⟩ = some (.int .u8 (nth L j : Int))) := fun j hj m => bl_cell m.below (by rw [← nth_eq hj]; exact hcell j hj)
        clear hcell
        have l1 : (i : Int) < (L.length : Int) := by omega
        go_wp2_with fail
        clear l1
        go_loopw [7] (fun s7 wr => ∃ k : Nat, s7 = .int .i64 (k : Int) ∧ i ≤ k ∧ k < L.length ∧ runE (nth L i) (L.drop (i + 1)) = (k - i) + runE (nth L k) (L.drop (k + 1)) ∧ nth L k = nth L i + (k - i) ∧ Below w4.heap.size w4 wr) (fun s7 _ => L.length - (intOf s7).toNat)
        case atStart => exact ⟨i, rfl, Nat.le_refl _, hlt, by omega, by omega, HBW.out⟩
        case round =>
          obtain ⟨k, rfl, hik, hk, hrun, hval, hbw2⟩ := hrel
          have HRUN := Lib.hid hrun
          have HVAL := Lib.hid hval
          have HBK := Lib.hid hbw2
          clear hrun hval hbw2 HBW
          have x1 : IntKind.i64.wrap ((k : Int) + 1) = (k : Int) + 1 := wrap_in _ (by omega) (by omega)
          by_cases hk1 : k + 1 < L.length
          · have l2 : (k : Int) + 1 < (L.length : Int) := by omega
            have l3 : decide ((k : Int) + 1 < (L.length : Int)) = true := decide_eq_true l2
            have l4 : (0 : Int) ≤ (k : Int) + 1 := by omega
            have l5 : (k : Int) < (L.length : Int) := by omega
            have l6 : ((k : Int) + 1).toNat = k + 1 := by omega
            have hr := HRI.out k hk1
            have h256 := HL256.out (k + 1) hk1
            have u1 : IntKind.u8.wrap ((nth L k : Int) + 1) = (nth L k : Int) + 1 := IntWalk.u8_in _ ⟨by omega, by omega⟩
            have C0 : ∀ m : Bel w4, m.val.cell? ⟨gb, k, none⟩ = some (.int .u8 (nth L k : Int)) := fun m => HC.out k hk m
            have C1 : ∀ m : Bel w4, m.val.cell? ⟨gb, k + 1, none⟩ = some (.int .u8 (nth L (k + 1) : Int)) := fun m => HC.out (k + 1) hk1 m
            have hst := runE_step hk1
            by_cases hq : nth L (k + 1) = nth L k + 1
            · rw [if_pos hq] at hst
              have HN : Hid (runE (nth L i) (L.drop (i + 1)) = (k + 1 - i) + runE (nth L (k + 1)) (L.drop (k + 1 + 1)) ∧ nth L (k + 1) = nth L i + (k + 1 - i)) := by
                have := HRUN.out
                have := HVAL.out
                exact ⟨by omega, by omega⟩
              have q1 : ((nth L (k + 1) : Int) == (nth L k : Int) + 1) = true := by simp; omega
              clear hst hq hr h256 HRUN HVAL
              go_wp2_with fail
              refine region_bel w4 HBK.out (by kernel_rfl) (by kernel_rfl) ?_
              repeat (go_big_quiet_step (fail))
              refine wpQuiet_nil ?_
              intro m
              clear C0 C1
              go_wp2_with fail
              go_roundw
              case rel => exact ⟨k + 1, by first | rfl | go_num, by omega, hk1, HN.out.1, HN.out.2, m.below⟩
              case measure => simp [intOf]; omega
            · rw [if_neg hq] at hst
              have HPS : Hid (partsL (L.drop i) = partB (nth L i) (k - i) ++ partsL (L.drop (k + 1))) := part_step hlt hik (by have := HRUN.out; omega)
              have q1 : ((nth L (k + 1) : Int) == (nth L k : Int) + 1) = false := by simp; omega
              have q2 : ¬ (nth L (k + 1) : Int) = (nth L k : Int) + 1 := by omega
              clear hst hq hr h256 HRUN
              go_wp2_with fail
              refine region_bel w4 HBK.out (by kernel_rfl) (by kernel_rfl) ?_
              repeat (go_big_quiet_step (fail))
              refine wpQuiet_nil ?_
              intro m
              clear C0 C1 x1 l2 l3 l4 l5 l6 u1
              have y18 : IntKind.i64.wrap ((k : Int) + 1) = ((k + 1 : Nat) : Int) := by rw [wrap_in _ (by omega) (by omega)]; push_cast; rfl
              obtain ⟨E0, hE0, es0, hC0⟩ := elem_letter (nth L i) (HL256.out i hlt)
              obtain ⟨EK, hEK, esk, hCK⟩ := elem_letter (nth L k) (HL256.out k hk)
              have HW0 := Lib.hid hC0
              have HE0 := Lib.hid (fun m : Bel w4 => calls_bel m (hC0 m.val))
              have HEK := Lib.hid (fun m : Bel w4 => calls_bel m (hCK m.val))
              clear hC0 hCK
              have hd : k = i ∨ k = i + 1 ∨ i + 2 ≤ k := by omega
              have I0 : ∀ m : Bel w4, m.val.cell? ⟨gb, i, none⟩ = some (.int .u8 (nth L i : Int)) := fun m => HC.out i hlt m
              have IK : ∀ m : Bel w4, m.val.cell? ⟨gb, k, none⟩ = some (.int .u8 (nth L k : Int)) := fun m => HC.out k hk m
              have HVAL2 := HVAL.out
              obtain ⟨ci, hci⟩ : ∃ c, nth L i = c := ⟨_, rfl⟩
              obtain ⟨ck, hck⟩ : ∃ c, nth L k = c := ⟨_, rfl⟩
              rw [hci] at I0 HE0 HW0 hE0 HPS HVAL2
              rw [hck] at IK HEK hEK HVAL2
              have sz45 : (⟨#[45]⟩ : ByteArray).size = 1 := rfl
              clear hci hck HC
              have z1 : (0 : Int) ≤ (i : Int) := by omega
              have z2 : (0 : Int) ≤ (k : Int) := by omega
              have z3 : (i : Int) < (L.length : Int) := by omega
              have z4 : (k : Int) < (L.length : Int) := by omega
              have z5 : i < L.length := by omega
              have z6 : k < L.length := by omega
              rcases hd with hd | hd | hd
              · have x3 : IntKind.i64.wrap ((k : Int) - (i : Int)) = 0 := by rw [wrap_in _ (by omega) (by omega)]; omega
                have HPB : Hid (acc.data.toList ++ E0.data.toList ++ partsL (L.drop (k + 1)) = [94] ++ partsL L) := by
                  show _ = _
                  rw [hE0, ← HACC.out, HPS.out, List.append_assoc, show partB ci (k - i) = elemB ci by unfold partB; rw [if_pos (by omega)]]
                have CI := I0 m
                clear hd I0 IK HE0 HEK hE0 hEK HVAL2
                go_wp2_with fail
                refine (HW0.out _).mono ?_
                rintro e w5 ⟨rfl, hb5⟩
                have HB5 := Lib.hid (bl_to m.below hb5)
                clear hb5
                go_wp2_with fail
                go_roundw
                case rel => exact ⟨k + 1, _, by first | rfl | go_num, rfl, by omega, by rw [cat_ba]; exact HPB.out, by rw [ByteArray.size_append]; omega, HB5.out⟩
                case measure => simp [intOf]; omega
              · have x3 : IntKind.i64.wrap ((k : Int) - (i : Int)) = 1 := by rw [wrap_in _ (by omega) (by omega)]; omega
                have HPB : Hid (acc.data.toList ++ (E0.data.toList ++ EK.data.toList) ++ partsL (L.drop (k + 1)) = [94] ++ partsL L) := by
                  show _ = _
                  rw [hE0, hEK, ← HACC.out, HPS.out, List.append_assoc, show partB ci (k - i) = elemB ci ++ elemB ck by unfold partB; rw [if_neg (by omega), if_pos (by omega), HVAL2, show k - i = 1 by omega]]
                clear hd hE0 hEK HW0 HVAL2
                go_wp2_with fail
                refine region_bel w4 m.below (by kernel_rfl) (by kernel_rfl) ?_
                repeat (go_big_quiet_step ((first | with_reducible exact HE0.out _ | with_reducible exact HEK.out _)))
                refine wpQuiet_nil ?_
                intro m5
                clear I0 IK HE0 HEK
                go_wp2_with fail
                go_roundw
                case rel => exact ⟨k + 1, _, by first | rfl | go_num, rfl, by omega, by rw [cat_ba, cat_ba]; exact HPB.out, by rw [ByteArray.size_append, ByteArray.size_append]; omega, m5.below⟩
                case measure => simp [intOf]; omega
              · obtain ⟨d, hdd⟩ : ∃ d, k = i + d := ⟨k - i, by omega⟩
                have x3 : IntKind.i64.wrap ((k : Int) - (i : Int)) = (d : Int) := by rw [wrap_in _ (by omega) (by omega)]; omega
                have n0 : ((d : Int) == 0) = false := by simp; omega
                have n1 : ((d : Int) == 1) = false := by simp; omega
                have n2 : ¬ (d : Int) = 0 := by omega
                have n3 : ¬ (d : Int) = 1 := by omega
                have HPB : Hid (acc.data.toList ++ (E0.data.toList ++ [45] ++ EK.data.toList) ++ partsL (L.drop (k + 1)) = [94] ++ partsL L) := by
                  show _ = _
                  rw [hE0, hEK, ← HACC.out, HPS.out, List.append_assoc, show partB ci (k - i) = elemB ci ++ [45] ++ elemB ck by unfold partB; rw [if_neg (by omega), if_neg (by omega), HVAL2, List.append_assoc]; rfl]
                have HDK := Lib.hid hdd
                clear hd hdd hE0 hEK HW0 HVAL2
                go_wp2_with fail
                refine region_bel w4 m.below (by kernel_rfl) (by kernel_rfl) ?_
                repeat (go_big_quiet_step ((first | with_reducible exact HE0.out _ | with_reducible exact HEK.out _)))
                refine wpQuiet_nil ?_
                intro m5
                clear I0 IK HE0 HEK
                go_wp2_with fail
                go_roundw
                case rel => exact ⟨k + 1, _, by first | rfl | go_num, rfl, by omega, by rw [cat_ba, cat_ba, cat_ba]; exact HPB.out, by rw [ByteArray.size_append, ByteArray.size_append, ByteArray.size_append]; have : (⟨#[45]⟩ : ByteArray).size = 1 := rfl; omega, m5.below⟩
                case measure => simp [intOf]; omega
          · have l2 : ¬ (k : Int) + 1 < (L.length : Int) := by omega
            have l3 : decide ((k : Int) + 1 < (L.length : Int)) = false := decide_eq_false l2
            have HPS : Hid (partsL (L.drop i) = partB (nth L i) (k - i) ++ partsL (L.drop (k + 1))) := part_step hlt hik (by have := HRUN.out; have := runE_end (l := L) (k := k) (by omega); omega)
            clear HRUN
            go_wp2_with fail
            refine region_bel w4 HBK.out (by kernel_rfl) (by kernel_rfl) ?_
            repeat (go_big_quiet_step (fail))
            refine wpQuiet_nil ?_
            intro m
            clear x1
            have y18 : IntKind.i64.wrap ((k : Int) + 1) = ((k + 1 : Nat) : Int) := by rw [wrap_in _ (by omega) (by omega)]; push_cast; rfl
            obtain ⟨E0, hE0, es0, hC0⟩ := elem_letter (nth L i) (HL256.out i hlt)
            obtain ⟨EK, hEK, esk, hCK⟩ := elem_letter (nth L k) (HL256.out k hk)
            have HW0 := Lib.hid hC0
            have HE0 := Lib.hid (fun m : Bel w4 => calls_bel m (hC0 m.val))
            have HEK := Lib.hid (fun m : Bel w4 => calls_bel m (hCK m.val))
            clear hC0 hCK
            have hd : k = i ∨ k = i + 1 ∨ i + 2 ≤ k := by omega
            have I0 : ∀ m : Bel w4, m.val.cell? ⟨gb, i, none⟩ = some (.int .u8 (nth L i : Int)) := fun m => HC.out i hlt m
            have IK : ∀ m : Bel w4, m.val.cell? ⟨gb, k, none⟩ = some (.int .u8 (nth L k : Int)) := fun m => HC.out k hk m
            have HVAL2 := HVAL.out
            obtain ⟨ci, hci⟩ : ∃ c, nth L i = c := ⟨_, rfl⟩
            obtain ⟨ck, hck⟩ : ∃ c, nth L k = c := ⟨_, rfl⟩
            rw [hci] at I0 HE0 HW0 hE0 HPS HVAL2
            rw [hck] at IK HEK hEK HVAL2
            have sz45 : (⟨#[45]⟩ : ByteArray).size = 1 := rfl
            clear hci hck HC
            have z1 : (0 : Int) ≤ (i : Int) := by omega
            have z2 : (0 : Int) ≤ (k : Int) := by omega
            have z3 : (i : Int) < (L.length : Int) := by omega
            have z4 : (k : Int) < (L.length : Int) := by omega
            have z5 : i < L.length := by omega
            have z6 : k < L.length := by omega
            rcases hd with hd | hd | hd
            · have x3 : IntKind.i64.wrap ((k : Int) - (i : Int)) = 0 := by rw [wrap_in _ (by omega) (by omega)]; omega
              have HPB : Hid (acc.data.toList ++ E0.data.toList ++ partsL (L.drop (k + 1)) = [94] ++ partsL L) := by
                show _ = _
                rw [hE0, ← HACC.out, HPS.out, List.append_assoc, show partB ci (k - i) = elemB ci by unfold partB; rw [if_pos (by omega)]]
              have CI := I0 m
              clear hd I0 IK HE0 HEK hE0 hEK HVAL2
              go_wp2_with fail
              refine (HW0.out _).mono ?_
              rintro e w5 ⟨rfl, hb5⟩
              have HB5 := Lib.hid (bl_to m.below hb5)
              clear hb5
              go_wp2_with fail
              go_roundw
              case rel => exact ⟨k + 1, _, by first | rfl | go_num, rfl, by omega, by rw [cat_ba]; exact HPB.out, by rw [ByteArray.size_append]; omega, HB5.out⟩
              case measure => simp [intOf]; omega
            · have x3 : IntKind.i64.wrap ((k : Int) - (i : Int)) = 1 := by rw [wrap_in _ (by omega) (by omega)]; omega
              have HPB : Hid (acc.data.toList ++ (E0.data.toList ++ EK.data.toList) ++ partsL (L.drop (k + 1)) = [94] ++ partsL L) := by
                show _ = _
                rw [hE0, hEK, ← HACC.out, HPS.out, List.append_assoc, show partB ci (k - i) = elemB ci ++ elemB ck by unfold partB; rw [if_neg (by omega), if_pos (by omega), HVAL2, show k - i = 1 by omega]]
              clear hd hE0 hEK HW0 HVAL2
              go_wp2_with fail
              refine region_bel w4 m.below (by kernel_rfl) (by kernel_rfl) ?_
              repeat (go_big_quiet_step ((first | with_reducible exact HE0.out _ | with_reducible exact HEK.out _)))
              refine wpQuiet_nil ?_
              intro m5
              clear I0 IK HE0 HEK
              go_wp2_with fail
              go_roundw
              case rel => exact ⟨k + 1, _, by first | rfl | go_num, rfl, by omega, by rw [cat_ba, cat_ba]; exact HPB.out, by rw [ByteArray.size_append, ByteArray.size_append]; omega, m5.below⟩
              case measure => simp [intOf]; omega
            · obtain ⟨d, hdd⟩ : ∃ d, k = i + d := ⟨k - i, by omega⟩
              have x3 : IntKind.i64.wrap ((k : Int) - (i : Int)) = (d : Int) := by rw [wrap_in _ (by omega) (by omega)]; omega
              have n0 : ((d : Int) == 0) = false := by simp; omega
              have n1 : ((d : Int) == 1) = false := by simp; omega
              have n2 : ¬ (d : Int) = 0 := by omega
              have n3 : ¬ (d : Int) = 1 := by omega
              have HPB : Hid (acc.data.toList ++ (E0.data.toList ++ [45] ++ EK.data.toList) ++ partsL (L.drop (k + 1)) = [94] ++ partsL L) := by
                show _ = _
                rw [hE0, hEK, ← HACC.out, HPS.out, List.append_assoc, show partB ci (k - i) = elemB ci ++ [45] ++ elemB ck by unfold partB; rw [if_neg (by omega), if_neg (by omega), HVAL2, List.append_assoc]; rfl]
              have HDK := Lib.hid hdd
              clear hd hdd hE0 hEK HW0 HVAL2
              go_wp2_with fail
              refine region_bel w4 m.below (by kernel_rfl) (by kernel_rfl) ?_
              repeat (go_big_quiet_step ((first | with_reducible exact HE0.out _ | with_reducible exact HEK.out _)))
              refine wpQuiet_nil ?_
              intro m5
              clear I0 IK HE0 HEK
              go_wp2_with fail
              go_roundw
              case rel => exact ⟨k + 1, _, by first | rfl | go_num, rfl, by omega, by rw [cat_ba, cat_ba, cat_ba]; exact HPB.out, by rw [ByteArray.size_append, ByteArray.size_append, ByteArray.size_append]; have : (⟨#[45]⟩ : ByteArray).size = 1 := rfl; omega, m5.below⟩
              case measure => simp [intOf]; omega
      · obtain rfl : i = L.length := by omega
        have l1 : ¬ (L.length : Int) < (L.length : Int) := by omega
        go_wp2_with fail
        go_ret
        refine ⟨?_, bl_to HB4.out HBW.out⟩
        have h := HACC.out
        rw [List.drop_eq_nil_of_le (Nat.le_refl _), partsL_nil, List.append_nil] at h
        have e : acc ++ (⟨#[93]⟩ : ByteArray) = ⟨([94] ++ partsL L ++ [93]).toArray⟩ := ba_ext (by rw [show (⟨#[93]⟩ : ByteArray) = ⟨([93] : Bs).toArray⟩ from rfl, cat_list, h])
        exact congrArg (fun x => Ending.returned (.string x)) e
  · have hpr : printS f = [] ++ partsL (natL f 256) ++ [93] := by
      unfold printS
      rw [if_neg (by unfold flipF; omega)]
      rfl
    rw [hpr]
    clear hpr hn
    have HBY : Hid (∀ W, Calls Tryz.prog 12 #[.agg (setC f)] W fun e w' => (∃ v, e = .returned v ∧ w'.ownsRow (W.heap.size + 1) 5 1 v (natL f 256).length (natC (natL f 256))) ∧ Below W.heap.size W w') := fun W => Bytes_any f W
    have hlen := natL_le f 256
    obtain ⟨L, hL⟩ : ∃ L, natL f 256 = L := ⟨_, rfl⟩
    have HL256 : Hid (∀ i, i < L.length → nth L i < 256) := by subst hL; exact fun i hi => by rw [← nth_eq hi]; exact natL_lt hi
    have HRI : Hid (∀ j, j + 1 < L.length → nth L j < nth L (j + 1)) := by subst hL; exact fun j hj => natL_rise _ _ j hj
    rw [hL] at HBY hlen ⊢
    clear hL
    have b1 : decide ((128 : Int) < (n : Int)) = true := decide_eq_true (by omega)
    have b2 : (128 : Int) < (n : Int) := by omega
    have b3 : ¬ (n : Int) < 256 := by omega
    have b4 : decide ((n : Int) < 256) = false := decide_eq_false (by omega)
    have b5 : ((n : Int) == 0) = false := by simp; omega
    have b6 : ¬ (n : Int) = 0 := by omega
    clear hle hc
    go_enter Tryz.func5, Tryz.ntmps5
    go_wp2_with fail
    refine (HCN.out _).mono ?_
    rintro e w1 ⟨rfl, hb1⟩
    have HK : Hid (w1.heap[w.heap.size]? = some (.cells (setC f) 24 (0, 0))) := blk_below HK0.out hb1 (by simp)
    have HB := Lib.hid (bl_to HB0.out hb1)
    have hsz1 : w.heap.size < w1.heap.size := blk_lt HK.out
    clear hb1 HCN HB0 HK0
    go_wp2_with (refine wpList_load_row (by rfl) 24 _ (by rfl) (w.heap.size) (by rfl) 24 _ (0, 0) _ HK.out Tryz.underlying24 (by rfl) info24 ?_)
    refine (HBY.out _).mono ?_
    rintro e w4 ⟨⟨v, rfl, ho⟩, hb4⟩
    have HB4 := Lib.hid (bl_to HB.out hb4)
    clear hb4 HB HK HBY
    obtain ⟨ao, cap, rfl, hcl⟩ := Nx.ofOwn ho
    have HCL := Lib.hid hcl
    clear hcl ho
    go_wp2_with fail
    go_loopw [3, 6] (fun s3 s6 wr => ∃ (i : Nat) (acc : ByteArray), s6 = .int .i64 (i : Int) ∧ s3 = .string acc ∧ i ≤ L.length ∧ acc.data.toList ++ partsL (L.drop i) = [] ++ partsL L ∧ acc.size ≤ 16 * i + 1 ∧ Below w4.heap.size w4 wr) (fun _ s6 _ => L.length - (intOf s6).toNat)
    case atStart => exact ⟨0, _, rfl, rfl, Nat.zero_le _, rfl, by decide, Below.refl _ _⟩
    case round =>
      obtain ⟨i, acc, rfl, rfl, hi, hacc, haz, hbw⟩ := hrel
      have HBW := Lib.hid hbw
      have HACC := Lib.hid hacc
      clear hbw hacc
      by_cases hlt : i < L.length
      · obtain ⟨gb, rfl, hgb, hcell⟩ := HCL.out (by omega)
        have HC : Hid (∀ j (hj : j < L.length) (m : Bel w4), m.val.cell? ⟨gb, j, none⟩ = some (.int .u8 (nth L j : Int))) := fun j hj m => bl_cell m.below (by rw [← nth_eq hj]; exact hcell j hj)
        clear hcell
        have l1 : (i : Int) < (L.length : Int) := by omega
        go_wp2_with fail
        clear l1
        go_loopw [7] (fun s7 wr => ∃ k : Nat, s7 = .int .i64 (k : Int) ∧ i ≤ k ∧ k < L.length ∧ runE (nth L i) (L.drop (i + 1)) = (k - i) + runE (nth L k) (L.drop (k + 1)) ∧ nth L k = nth L i + (k - i) ∧ Below w4.heap.size w4 wr) (fun s7 _ => L.length - (intOf s7).toNat)
        case atStart => exact ⟨i, rfl, Nat.le_refl _, hlt, by omega, by omega, HBW.out⟩
        case round =>
          obtain ⟨k, rfl, hik, hk, hrun, hval, hbw2⟩ := hrel
          have HRUN := Lib.hid hrun
          have HVAL := Lib.hid hval
          have HBK := Lib.hid hbw2
          clear hrun hval hbw2 HBW
          have x1 : IntKind.i64.wrap ((k : Int) + 1) = (k : Int) + 1 := wrap_in _ (by omega) (by omega)
          by_cases hk1 : k + 1 < L.length
          · have l2 : (k : Int) + 1 < (L.length : Int) := by omega
            have l3 : decide ((k : Int) + 1 < (L.length : Int)) = true := decide_eq_true l2
            have l4 : (0 : Int) ≤ (k : Int) + 1 := by omega
            have l5 : (k : Int) < (L.length : Int) := by omega
            have l6 : ((k : Int) + 1).toNat = k + 1 := by omega
            have hr := HRI.out k hk1
            have h256 := HL256.out (k + 1) hk1
            have u1 : IntKind.u8.wrap ((nth L k : Int) + 1) = (nth L k : Int) + 1 := IntWalk.u8_in _ ⟨by omega, by omega⟩
            have C0 : ∀ m : Bel w4, m.val.cell? ⟨gb, k, none⟩ = some (.int .u8 (nth L k : Int)) := fun m => HC.out k hk m
            have C1 : ∀ m : Bel w4, m.val.cell? ⟨gb, k + 1, none⟩ = some (.int .u8 (nth L (k + 1) : Int)) := fun m => HC.out (k + 1) hk1 m
            have hst := runE_step hk1
            by_cases hq : nth L (k + 1) = nth L k + 1
            · rw [if_pos hq] at hst
              have HN : Hid (runE (nth L i) (L.drop (i + 1)) = (k + 1 - i) + runE (nth L (k + 1)) (L.drop (k + 1 + 1)) ∧ nth L (k + 1) = nth L i + (k + 1 - i)) := by
                have := HRUN.out
                have := HVAL.out
                exact ⟨by omega, by omega⟩
              have q1 : ((nth L (k + 1) : Int) == (nth L k : Int) + 1) = true := by simp; omega
              clear hst hq hr h256 HRUN HVAL
              go_wp2_with fail
              refine region_bel w4 HBK.out (by kernel_rfl) (by kernel_rfl) ?_
              repeat (go_big_quiet_step (fail))
              refine wpQuiet_nil ?_
              intro m
              clear C0 C1
              go_wp2_with fail
              go_roundw
              case rel => exact ⟨k + 1, by first | rfl | go_num, by omega, hk1, HN.out.1, HN.out.2, m.below⟩
              case measure => simp [intOf]; omega
            · rw [if_neg hq] at hst
              have HPS : Hid (partsL (L.drop i) = partB (nth L i) (k - i) ++ partsL (L.drop (k + 1))) := part_step hlt hik (by have := HRUN.out; omega)
              have q1 : ((nth L (k + 1) : Int) == (nth L k : Int) + 1) = false := by simp; omega
              have q2 : ¬ (nth L (k + 1) : Int) = (nth L k : Int) + 1 := by omega
              clear hst hq hr h256 HRUN
              go_wp2_with fail
              refine region_bel w4 HBK.out (by kernel_rfl) (by kernel_rfl) ?_
              repeat (go_big_quiet_step (fail))
              refine wpQuiet_nil ?_
              intro m
              clear C0 C1 x1 l2 l3 l4 l5 l6 u1
              have y18 : IntKind.i64.wrap ((k : Int) + 1) = ((k + 1 : Nat) : Int) := by rw [wrap_in _ (by omega) (by omega)]; push_cast; rfl
              obtain ⟨E0, hE0, es0, hC0⟩ := elem_letter (nth L i) (HL256.out i hlt)
              obtain ⟨EK, hEK, esk, hCK⟩ := elem_letter (nth L k) (HL256.out k hk)
              have HW0 := Lib.hid hC0
              have HE0 := Lib.hid (fun m : Bel w4 => calls_bel m (hC0 m.val))
              have HEK := Lib.hid (fun m : Bel w4 => calls_bel m (hCK m.val))
              clear hC0 hCK
              have hd : k = i ∨ k = i + 1 ∨ i + 2 ≤ k := by omega
              have I0 : ∀ m : Bel w4, m.val.cell? ⟨gb, i, none⟩ = some (.int .u8 (nth L i : Int)) := fun m => HC.out i hlt m
              have IK : ∀ m : Bel w4, m.val.cell? ⟨gb, k, none⟩ = some (.int .u8 (nth L k : Int)) := fun m => HC.out k hk m
              have HVAL2 := HVAL.out
              obtain ⟨ci, hci⟩ : ∃ c, nth L i = c := ⟨_, rfl⟩
              obtain ⟨ck, hck⟩ : ∃ c, nth L k = c := ⟨_, rfl⟩
              rw [hci] at I0 HE0 HW0 hE0 HPS HVAL2
              rw [hck] at IK HEK hEK HVAL2
              have sz45 : (⟨#[45]⟩ : ByteArray).size = 1 := rfl
              clear hci hck HC
              have z1 : (0 : Int) ≤ (i : Int) := by omega
              have z2 : (0 : Int) ≤ (k : Int) := by omega
              have z3 : (i : Int) < (L.length : Int) := by omega
              have z4 : (k : Int) < (L.length : Int) := by omega
              have z5 : i < L.length := by omega
              have z6 : k < L.length := by omega
              rcases hd with hd | hd | hd
              · have x3 : IntKind.i64.wrap ((k : Int) - (i : Int)) = 0 := by rw [wrap_in _ (by omega) (by omega)]; omega
                have HPB : Hid (acc.data.toList ++ E0.data.toList ++ partsL (L.drop (k + 1)) = [] ++ partsL L) := by
                  show _ = _
                  rw [hE0, ← HACC.out, HPS.out, List.append_assoc, show partB ci (k - i) = elemB ci by unfold partB; rw [if_pos (by omega)]]
                have CI := I0 m
                clear hd I0 IK HE0 HEK hE0 hEK HVAL2
                go_wp2_with fail
                refine (HW0.out _).mono ?_
                rintro e w5 ⟨rfl, hb5⟩
                have HB5 := Lib.hid (bl_to m.below hb5)
                clear hb5
                go_wp2_with fail
                go_roundw
                case rel => exact ⟨k + 1, _, by first | rfl | go_num, rfl, by omega, by rw [cat_ba]; exact HPB.out, by rw [ByteArray.size_append]; omega, HB5.out⟩
                case measure => simp [intOf]; omega
              · have x3 : IntKind.i64.wrap ((k : Int) - (i : Int)) = 1 := by rw [wrap_in _ (by omega) (by omega)]; omega
                have HPB : Hid (acc.data.toList ++ (E0.data.toList ++ EK.data.toList) ++ partsL (L.drop (k + 1)) = [] ++ partsL L) := by
                  show _ = _
                  rw [hE0, hEK, ← HACC.out, HPS.out, List.append_assoc, show partB ci (k - i) = elemB ci ++ elemB ck by unfold partB; rw [if_neg (by omega), if_pos (by omega), HVAL2, show k - i = 1 by omega]]
                clear hd hE0 hEK HW0 HVAL2
                go_wp2_with fail
                refine region_bel w4 m.below (by kernel_rfl) (by kernel_rfl) ?_
                repeat (go_big_quiet_step ((first | with_reducible exact HE0.out _ | with_reducible exact HEK.out _)))
                refine wpQuiet_nil ?_
                intro m5
                clear I0 IK HE0 HEK
                go_wp2_with fail
                go_roundw
                case rel => exact ⟨k + 1, _, by first | rfl | go_num, rfl, by omega, by rw [cat_ba, cat_ba]; exact HPB.out, by rw [ByteArray.size_append, ByteArray.size_append]; omega, m5.below⟩
                case measure => simp [intOf]; omega
              · obtain ⟨d, hdd⟩ : ∃ d, k = i + d := ⟨k - i, by omega⟩
                have x3 : IntKind.i64.wrap ((k : Int) - (i : Int)) = (d : Int) := by rw [wrap_in _ (by omega) (by omega)]; omega
                have n0 : ((d : Int) == 0) = false := by simp; omega
                have n1 : ((d : Int) == 1) = false := by simp; omega
                have n2 : ¬ (d : Int) = 0 := by omega
                have n3 : ¬ (d : Int) = 1 := by omega
                have HPB : Hid (acc.data.toList ++ (E0.data.toList ++ [45] ++ EK.data.toList) ++ partsL (L.drop (k + 1)) = [] ++ partsL L) := by
                  show _ = _
                  rw [hE0, hEK, ← HACC.out, HPS.out, List.append_assoc, show partB ci (k - i) = elemB ci ++ [45] ++ elemB ck by unfold partB; rw [if_neg (by omega), if_neg (by omega), HVAL2, List.append_assoc]; rfl]
                have HDK := Lib.hid hdd
                clear hd hdd hE0 hEK HW0 HVAL2
                go_wp2_with fail
                refine region_bel w4 m.below (by kernel_rfl) (by kernel_rfl) ?_
                repeat (go_big_quiet_step ((first | with_reducible exact HE0.out _ | with_reducible exact HEK.out _)))
                refine wpQuiet_nil ?_
                intro m5
                clear I0 IK HE0 HEK
                go_wp2_with fail
                go_roundw
                case rel => exact ⟨k + 1, _, by first | rfl | go_num, rfl, by omega, by rw [cat_ba, cat_ba, cat_ba]; exact HPB.out, by rw [ByteArray.size_append, ByteArray.size_append, ByteArray.size_append]; have : (⟨#[45]⟩ : ByteArray).size = 1 := rfl; omega, m5.below⟩
                case measure => simp [intOf]; omega
          · have l2 : ¬ (k : Int) + 1 < (L.length : Int) := by omega
            have l3 : decide ((k : Int) + 1 < (L.length : Int)) = false := decide_eq_false l2
            have HPS : Hid (partsL (L.drop i) = partB (nth L i) (k - i) ++ partsL (L.drop (k + 1))) := part_step hlt hik (by have := HRUN.out; have := runE_end (l := L) (k := k) (by omega); omega)
            clear HRUN
            go_wp2_with fail
            refine region_bel w4 HBK.out (by kernel_rfl) (by kernel_rfl) ?_
            repeat (go_big_quiet_step (fail))
            refine wpQuiet_nil ?_
            intro m
            clear x1
            have y18 : IntKind.i64.wrap ((k : Int) + 1) = ((k + 1 : Nat) : Int) := by rw [wrap_in _ (by omega) (by omega)]; push_cast; rfl
            obtain ⟨E0, hE0, es0, hC0⟩ := elem_letter (nth L i) (HL256.out i hlt)
            obtain ⟨EK, hEK, esk, hCK⟩ := elem_letter (nth L k) (HL256.out k hk)
            have HW0 := Lib.hid hC0
            have HE0 := Lib.hid (fun m : Bel w4 => calls_bel m (hC0 m.val))
            have HEK := Lib.hid (fun m : Bel w4 => calls_bel m (hCK m.val))
            clear hC0 hCK
            have hd : k = i ∨ k = i + 1 ∨ i + 2 ≤ k := by omega
            have I0 : ∀ m : Bel w4, m.val.cell? ⟨gb, i, none⟩ = some (.int .u8 (nth L i : Int)) := fun m => HC.out i hlt m
            have IK : ∀ m : Bel w4, m.val.cell? ⟨gb, k, none⟩ = some (.int .u8 (nth L k : Int)) := fun m => HC.out k hk m
            have HVAL2 := HVAL.out
            obtain ⟨ci, hci⟩ : ∃ c, nth L i = c := ⟨_, rfl⟩
            obtain ⟨ck, hck⟩ : ∃ c, nth L k = c := ⟨_, rfl⟩
            rw [hci] at I0 HE0 HW0 hE0 HPS HVAL2
            rw [hck] at IK HEK hEK HVAL2
            have sz45 : (⟨#[45]⟩ : ByteArray).size = 1 := rfl
            clear hci hck HC
            have z1 : (0 : Int) ≤ (i : Int) := by omega
            have z2 : (0 : Int) ≤ (k : Int) := by omega
            have z3 : (i : Int) < (L.length : Int) := by omega
            have z4 : (k : Int) < (L.length : Int) := by omega
            have z5 : i < L.length := by omega
            have z6 : k < L.length := by omega
            rcases hd with hd | hd | hd
            · have x3 : IntKind.i64.wrap ((k : Int) - (i : Int)) = 0 := by rw [wrap_in _ (by omega) (by omega)]; omega
              have HPB : Hid (acc.data.toList ++ E0.data.toList ++ partsL (L.drop (k + 1)) = [] ++ partsL L) := by
                show _ = _
                rw [hE0, ← HACC.out, HPS.out, List.append_assoc, show partB ci (k - i) = elemB ci by unfold partB; rw [if_pos (by omega)]]
              have CI := I0 m
              clear hd I0 IK HE0 HEK hE0 hEK HVAL2
              go_wp2_with fail
              refine (HW0.out _).mono ?_
              rintro e w5 ⟨rfl, hb5⟩
              have HB5 := Lib.hid (bl_to m.below hb5)
              clear hb5
              go_wp2_with fail
              go_roundw
              case rel => exact ⟨k + 1, _, by first | rfl | go_num, rfl, by omega, by rw [cat_ba]; exact HPB.out, by rw [ByteArray.size_append]; omega, HB5.out⟩
              case measure => simp [intOf]; omega
            · have x3 : IntKind.i64.wrap ((k : Int) - (i : Int)) = 1 := by rw [wrap_in _ (by omega) (by omega)]; omega
              have HPB : Hid (acc.data.toList ++ (E0.data.toList ++ EK.data.toList) ++ partsL (L.drop (k + 1)) = [] ++ partsL L) := by
                show _ = _
                rw [hE0, hEK, ← HACC.out, HPS.out, List.append_assoc, show partB ci (k - i) = elemB ci ++ elemB ck by unfold partB; rw [if_neg (by omega), if_pos (by omega), HVAL2, show k - i = 1 by omega]]
              clear hd hE0 hEK HW0 HVAL2
              go_wp2_with fail
              refine region_bel w4 m.below (by kernel_rfl) (by kernel_rfl) ?_
              repeat (go_big_quiet_step ((first | with_reducible exact HE0.out _ | with_reducible exact HEK.out _)))
              refine wpQuiet_nil ?_
              intro m5
              clear I0 IK HE0 HEK
              go_wp2_with fail
              go_roundw
              case rel => exact ⟨k + 1, _, by first | rfl | go_num, rfl, by omega, by rw [cat_ba, cat_ba]; exact HPB.out, by rw [ByteArray.size_append, ByteArray.size_append]; omega, m5.below⟩
              case measure => simp [intOf]; omega
            · obtain ⟨d, hdd⟩ : ∃ d, k = i + d := ⟨k - i, by omega⟩
              have x3 : IntKind.i64.wrap ((k : Int) - (i : Int)) = (d : Int) := by rw [wrap_in _ (by omega) (by omega)]; omega
              have n0 : ((d : Int) == 0) = false := by simp; omega
              have n1 : ((d : Int) == 1) = false := by simp; omega
              have n2 : ¬ (d : Int) = 0 := by omega
              have n3 : ¬ (d : Int) = 1 := by omega
              have HPB : Hid (acc.data.toList ++ (E0.data.toList ++ [45] ++ EK.data.toList) ++ partsL (L.drop (k + 1)) = [] ++ partsL L) := by
                show _ = _
                rw [hE0, hEK, ← HACC.out, HPS.out, List.append_assoc, show partB ci (k - i) = elemB ci ++ [45] ++ elemB ck by unfold partB; rw [if_neg (by omega), if_neg (by omega), HVAL2, List.append_assoc]; rfl]
              have HDK := Lib.hid hdd
              clear hd hdd hE0 hEK HW0 HVAL2
              go_wp2_with fail
              refine region_bel w4 m.below (by kernel_rfl) (by kernel_rfl) ?_
              repeat (go_big_quiet_step ((first | with_reducible exact HE0.out _ | with_reducible exact HEK.out _)))
              refine wpQuiet_nil ?_
              intro m5
              clear I0 IK HE0 HEK
              go_wp2_with fail
              go_roundw
              case rel => exact ⟨k + 1, _, by first | rfl | go_num, rfl, by omega, by rw [cat_ba, cat_ba, cat_ba]; exact HPB.out, by rw [ByteArray.size_append, ByteArray.size_append, ByteArray.size_append]; have : (⟨#[45]⟩ : ByteArray).size = 1 := rfl; omega, m5.below⟩
              case measure => simp [intOf]; omega
      · obtain rfl : i = L.length := by omega
        have l1 : ¬ (L.length : Int) < (L.length : Int) := by omega
        go_wp2_with fail
        go_ret
        refine ⟨?_, bl_to HB4.out HBW.out⟩
        have h := HACC.out
        rw [List.drop_eq_nil_of_le (Nat.le_refl _), partsL_nil, List.append_nil] at h
        have e : acc ++ (⟨#[93]⟩ : ByteArray) = ⟨([] ++ partsL L ++ [93]).toArray⟩ := ba_ext (by rw [show (⟨#[93]⟩ : ByteArray) = ⟨([93] : Bs).toArray⟩ from rfl, cat_list, h])
        exact congrArg (fun x => Ending.returned (.string x)) e
end Go.Proofs.YtlhppbendpnkeaaGreatDoor
