/- The walk of ArgsParts. -/
import Derived.Test.YtbigolappdlhcaaZR
import Derived.Deep.DeepCutAuto
import Derived.Deep.CutBlock
namespace Go.Proofs.Ytbigolappdlhcaa
set_option linter.unusedSimpArgs false
set_option linter.unusedVariables false
open Go.RowKit

def pcsOf (l : List ByteArray) : List Pc := l.map (fun t => (false, t))
theorem sumP_pcs (l : List ByteArray) : sumP (pcsOf l) = sumS l := by
  induction l with
  | nil => rfl
  | cons t r ih => simp only [pcsOf, List.map_cons, sumP, sumS]; rw [show r.map (fun t => ((false, t) : Pc)) = pcsOf r from rfl, ih]
theorem scrR_pcs (l : List ByteArray) : scrR (pcsOf l) [] = (joinT l, 0) := by
  unfold scrR pcsOf
  rw [scrT_names]; rfl
theorem Sx.cut {w : World} {ao : Option Addr} {cap n m k : Nat} {l : List Pc} (h : Sx w (.slice ao n cap) l) (hk : k + m ≤ l.length) (ao' : Option Addr) (c' : Nat) (ha : ao' = ao.map (·.add (k * 2)) ∨ m = 0) : Sx w (.slice ao' m c') ((l.drop k).take m) := by
  have hl : ((l.drop k).take m).length = m := by rw [List.length_take, List.length_drop]; omega
  refine ⟨ao', c', by rw [hl], fun hn => ?_⟩
  rw [hl] at hn
  obtain ⟨_, _, e1, hc⟩ := h
  simp only [Value.slice.injEq] at e1
  obtain ⟨rfl, rfl, rfl⟩ := e1
  obtain ⟨b, off, rfl, hb, hcc⟩ := hc (by omega)
  rcases ha with rfl | h0
  · refine ⟨b, off + k * 2, by simp [Addr.add], hb, fun i hi => ?_⟩
    rw [hl] at hi
    have := hcc (k + i) (by omega)
    have e : ((l.drop k).take m)[i]'(by rw [hl]; exact hi) = l[k + i]'(by omega) := by
      rw [List.getElem_take, List.getElem_drop]
    rw [e, show off + k * 2 + i * 2 = off + (k + i) * 2 by omega]
    exact this
  · omega

set_option maxRecDepth 100000 in
set_option maxHeartbeats 6400000 in
theorem parts_any (v : Value) (l : List ByteArray) (x : Int) (w : World) (hv : Tz w v l) (hs : sumS l ≤ 1048576) (h1 : -9223372036854775808 ≤ x) (h2 : x ≤ 9223372036854775807) : Calls Try.prog 11 #[v, .int .i64 x] w fun e w' => e = .returned (.bool true) ∧ Below w.heap.size w w' := by
  have hl := (sumS_len l).1
  have HV := Lib.hid hv
  obtain ⟨va, vc, rfl, _⟩ := id hv.tx
  have hl2 : l.length ≤ 1048576 := by omega
  have HS := Lib.hid hs
  obtain ⟨i0, hi0, hz0, hz1, hz2⟩ := info_parts info45
  have hu0 : 0 ≤ IntKind.u64.wrap x := by simp [IntKind.wrap, IntKind.bits, IntKind.signed]; omega
  obtain ⟨q, hq, hq2⟩ : ∃ q : Nat, (IntKind.u64.wrap x).tmod ((l.length : Int) + 1) = (q : Int) ∧ q ≤ l.length := by
    have e1 : (IntKind.u64.wrap x).tmod ((l.length : Int) + 1) = IntKind.u64.wrap x % ((l.length : Int) + 1) := Int.tmod_eq_emod_of_nonneg hu0
    have e2 := Int.emod_nonneg (IntKind.u64.wrap x) (b := (l.length : Int) + 1) (by omega)
    have e3 := Int.emod_lt_of_pos (IntKind.u64.wrap x) (b := (l.length : Int) + 1) (by omega)
    exact ⟨(IntKind.u64.wrap x % ((l.length : Int) + 1)).toNat, by rw [e1]; omega, by omega⟩
  have hq0 : (0 : Int) ≤ (q : Int) := by omega
  have hq1 : (q : Int) ≤ (l.length : Int) := by omega
  obtain ⟨S, hS⟩ : ∃ S, joinT l = S := ⟨_, rfl⟩
  obtain ⟨A, hA⟩ : ∃ A, joinT (l.take q) = A := ⟨_, rfl⟩
  obtain ⟨B, hB⟩ : ∃ B, joinT (l.drop q) = B := ⟨_, rfl⟩
  have hAB : sumS (l.take q) + sumS (l.drop q) = sumS l := by rw [← sumS_append, List.take_append_drop]
  have hAz : A.size ≤ 1048576 := by rw [← hA]; exact Nat.le_trans (joinT_size _) (by omega)
  have hBz : B.size ≤ 1048576 := by rw [← hB]; exact Nat.le_trans (joinT_size _) (by omega)
  have HTT : Hid ((q = 0 ∧ B = S) ∨ (q ≠ 0 ∧ q = l.length ∧ A = S) ∨ (q ≠ 0 ∧ q ≠ l.length ∧ S = (A ++ ⟨#[10]⟩) ++ B)) := by
    by_cases h0 : q = 0
    · exact .inl ⟨h0, by rw [← hB, ← hS, h0, List.drop_zero]⟩
    · by_cases hn : q = l.length
      · exact .inr (.inl ⟨h0, hn, by rw [← hA, ← hS, hn, List.take_of_length_le (Nat.le_refl _)]⟩)
      · refine .inr (.inr ⟨h0, hn, ?_⟩)
        rw [← hA, ← hB, ← hS, ← joinT_app _ _ (fun e => by have := congrArg List.length e; rw [List.length_take, List.length_nil] at this; omega) (fun e => by have := congrArg List.length e; rw [List.length_drop, List.length_nil] at this; omega), List.take_append_drop]
  have HC1 := Lib.hid (fun W u (hu : Sx W u (pcsOf l)) => script_any u (.slice none 0 0) (pcsOf l) [] W hu (Tz.ofOwn (Out.nil W 0)) (by rw [sumP_pcs]; simp [sumS]; omega))
  have HC2 := Lib.hid (fun W u (hu : Sx W u (pcsOf (l.take q))) => script_any u (.slice none 0 0) (pcsOf (l.take q)) [] W hu (Tz.ofOwn (Out.nil W 0)) (by rw [sumP_pcs]; simp [sumS]; omega))
  have HC3 := Lib.hid (fun W u (hu : Sx W u (pcsOf (l.drop q))) => script_any u (.slice none 0 0) (pcsOf (l.drop q)) [] W hu (Tz.ofOwn (Out.nil W 0)) (by rw [sumP_pcs]; simp [sumS]; omega))
  unfold ScrPost at HC1 HC2 HC3
  rw [scrR_pcs, hS] at HC1
  rw [scrR_pcs, hA] at HC2
  rw [scrR_pcs, hB] at HC3
  clear hv hs hl hu0 hS hA hB hAB
  go_enter Try.func11, Try.ntmps11
  go_wp2_with fail
  refine (begins_any _).mono ?_
  rintro e w1 ⟨rfl, hb1⟩
  have HB1 := Lib.hid hb1
  have hbs1 := hb1.size
  clear hb1
  go_wp2_with fail
  go_loopw [5, 6] (fun s5 s6 wr => ∃ k : Nat, k ≤ l.length ∧ s6 = .int .i64 k ∧ wr.ownsRow w1.heap.size 45 2 s5 k ((pcsOf (l.take k)).flatMap pcells) ∧ Below w1.heap.size w1 wr) (fun _ s6 _ => l.length - (intOf s6).toNat)
  case atStart => exact ⟨0, Nat.zero_le _, rfl, World.ownsRow_nil _ _ _ _, Below.refl _ _⟩
  case round =>
    obtain ⟨k, hk, rfl, g1, g2⟩ := hrel
    have HO := Lib.hid g1
    have HW := Lib.hid g2
    have hbs := g2.size
    by_cases hlt : k < l.length
    · obtain ⟨_, _, e1, hc1⟩ := HV.out.tx
      simp only [Value.slice.injEq, true_and] at e1
      obtain ⟨rfl, rfl⟩ := e1
      obtain ⟨b, off, rfl, hbl, hc⟩ := hc1 (by omega)
      have d0 := ((bl_to HB1.out g2).cell (p := ⟨b, off + k, none⟩) hbl).trans (hc k hlt)
      obtain ⟨t, ht⟩ : ∃ t, l[k] = t := ⟨_, rfl⟩
      rw [ht] at d0
      have HTK : Hid ((pcsOf (l.take (k + 1))).flatMap pcells = (pcsOf (l.take k)).flatMap pcells ++ [.bool false, .string t]) := by
        show _ = _
        rw [List.take_succ_eq_append_getElem hlt, ht]
        simp [pcsOf, pcells]
      have hk1 : (k : Int) < (l.length : Int) := by omega
      have h63 : k + 1 ≤ maxLen := by unfold maxLen; omega
      have hby : (k + 1) * 24 ≤ 140737488355328 := by omega
      clear hc1 hc ht g1 g2
      go_wp2_with (at_builtin; go_must (refine wpList_append_own _ rfl (.tmp 22) (.tmp 28) 24 rfl w1.heap.size 45 i0 (.agg #[(.bool false), (.string ⟨#[]⟩)]) 2 24 Try.underlying24 hi0 hz0 hz1 hz2 rfl (by decide) _ k ((pcsOf (l.take k)).flatMap pcells) rfl (row_to (bl_alloc wr _) HO.out) ⟨wr.heap.size, 0, none⟩ 1 1 [.bool false, .string t] rfl rfl (cells_two wr _ _ _) (by intro u hu; simp at hu; rcases hu with rfl | rfl <;> rfl) h63 hby (by simp; omega) ?_))
      intro nv w3 hown hgrow hiff
      have hf3 : Fr (fun i => Value.ownBlock u5 = some i) wr w3 := ((Fr.refl _ wr).alloc _).trans (Fr.ofGrown hgrow) (fun i _ hi => hi)
      have HW3 := Lib.hid (HW.out.trans (hf3.toBelow hbs (fun i _ hi => (World.ownsRow.lt HO.out i hi).1)))
      have HO3 : Hid (w3.ownsRow w1.heap.size 45 2 nv (k + 1) ((pcsOf (l.take (k + 1))).flatMap pcells)) := by show World.ownsRow _ _ _ _ _ _ _; rw [HTK.out]; exact hown
      clear hown hgrow hiff hf3
      go_wp2_with fail
      go_roundw
      case rel => exact ⟨k + 1, by omega, by go_num, HO3.out, HW3.out⟩
      case measure => simp [intOf]; omega
    · obtain rfl : k = l.length := by omega
      have hx1 : ¬ (l.length : Int) < (l.length : Int) := by omega
      rw [List.take_of_length_le (Nat.le_refl _)] at g1
      obtain ⟨sa, sc, rfl⟩ := row_slice g1
      have hpl : (pcsOf l).length = l.length := List.length_map _
      have hsx : Sx wr (.slice sa l.length sc) (pcsOf l) := by
        have g3 := g1
        rw [← hpl] at g3 ⊢
        exact Sx.ofOwn g3
      have HOX := Lib.hid g1
      clear g1 g2 HO hk hlt
      have hs2 : ∀ W, Below wr.heap.size wr W → Sx W (.slice sa q sc) (pcsOf (l.take q)) := fun W hb => by
        have := Sx.cut (hsx.to hb) (k := 0) (m := q) (by omega) sa sc (.inl (by cases sa <;> simp [Addr.add]))
        rwa [List.drop_zero, pcsOf, ← List.map_take] at this
      have hfit : l.length ≤ sc ∧ (sa = none → sc = 0) := by
        rcases HOX.out.2 with ⟨h, h0⟩ | ⟨g, cap, cur, h, hb, hgg, hle, rest⟩
        · simp only [Value.slice.injEq] at h; obtain ⟨rfl, _, rfl⟩ := h; exact ⟨by omega, fun _ => rfl⟩
        · simp only [Value.slice.injEq] at h; obtain ⟨rfl, _, rfl⟩ := h; exact ⟨hle, fun e => by cases e⟩
      obtain ⟨m, hm⟩ : ∃ m, l.length - q = m := ⟨_, rfl⟩
      have hs3 : ∀ W, Below wr.heap.size wr W → ∀ ao' c', (ao' = sa.map (·.add (q * 2)) ∨ m = 0) → Sx W (.slice ao' m c') (pcsOf (l.drop q)) := fun W hb ao' c' ha => by
        have := Sx.cut (hsx.to hb) (k := q) (m := m) (by omega) ao' c' ha
        rw [List.take_of_length_le (by rw [List.length_drop]; omega)] at this
        rwa [pcsOf, ← List.map_drop] at this
      have HX := Lib.hid (HC1.out wr _ hsx)
      have HS2 := Lib.hid hs2
      have HS3 := Lib.hid hs3
      have HM := Lib.hid hm
      have HBW := Lib.hid (bl_to HB1.out HW.out)
      have hqs : (q : Int) ≤ (sc : Int) := by omega
      have hfit1 := hfit.1
      have hfit2 := hfit.2
      clear hsx hs2 hs3 hm HC1 hfit
      go_wp2_with fail
      refine HX.out.mono ?_
      rintro e w2 ⟨rfl, hb2⟩
      have HB2 := Lib.hid hb2
      clear hb2
      go_wp2_with fail
      refine (HC2.out _ _ (HS2.out _ HB2.out)).mono ?_
      rintro e w3 ⟨rfl, hb3⟩
      have HB3 := Lib.hid (bl_to HB2.out hb3)
      clear hb3
      have hm0 := HM.out
      rcases (show sc = q ∨ (¬ sc = q ∧ ¬ q = sc) by omega) with hcp | ⟨hcp, hcp2⟩
      · have h0 : m = 0 := by omega
        replace hcp := eq_true hcp
        clear hm0
        go_wp2_with fail
        rw [HM.out]
        refine (HC3.out _ _ (HS3.out _ HB3.out _ _ (.inr h0))).mono ?_
        rintro e w4 ⟨rfl, hb4⟩
        have HB4 := Lib.hid (bl_to HBW.out (bl_to HB3.out hb4))
        clear hb4
        rcases HTT.out with ⟨k0, rfl⟩ | ⟨k0, k1, rfl⟩ | ⟨k0, k1, rfl⟩
        · have z0 : ((q : Int) == 0) = true := by simp; omega
          clear k0
          go_wp2_with fail
          go_ret
          exact ⟨rfl, HB4.out⟩
        · have z0 : ((q : Int) == 0) = false := by simp; omega
          have z1 : ((q : Int) == (l.length : Int)) = true := by simp; omega
          clear k0 k1
          go_wp2_with fail
          go_ret
          exact ⟨rfl, HB4.out⟩
        · have z0 : ((q : Int) == 0) = false := by simp; omega
          have z1 : ((q : Int) == (l.length : Int)) = false := by simp; omega
          clear k0 k1
          go_wp2_with fail
          go_ret
          exact ⟨rfl, HB4.out⟩
      · clear hm0
        go_wp2_with fail
        rw [HM.out]
        refine (HC3.out _ _ (HS3.out _ HB3.out _ _ (.inl rfl))).mono ?_
        rintro e w4 ⟨rfl, hb4⟩
        have HB4 := Lib.hid (bl_to HBW.out (bl_to HB3.out hb4))
        clear hb4
        rcases HTT.out with ⟨k0, rfl⟩ | ⟨k0, k1, rfl⟩ | ⟨k0, k1, rfl⟩
        · have z0 : ((q : Int) == 0) = true := by simp; omega
          clear k0
          go_wp2_with fail
          go_ret
          exact ⟨rfl, HB4.out⟩
        · have z0 : ((q : Int) == 0) = false := by simp; omega
          have z1 : ((q : Int) == (l.length : Int)) = true := by simp; omega
          clear k0 k1
          go_wp2_with fail
          go_ret
          exact ⟨rfl, HB4.out⟩
        · have z0 : ((q : Int) == 0) = false := by simp; omega
          have z1 : ((q : Int) == (l.length : Int)) = false := by simp; omega
          clear k0 k1
          go_wp2_with fail
          go_ret
          exact ⟨rfl, HB4.out⟩
end Go.Proofs.Ytbigolappdlhcaa
