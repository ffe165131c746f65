/- alike, Within, samePath. -/
import Derived.Test.YtnfnjobgkpefdaaDoorT
namespace Go.Proofs.YtnfnjobgkpefdaaDoor
set_option linter.unusedSimpArgs false
set_option linter.unusedVariables false
open Go.RowKit

theorem toList_ne {x y : ByteArray} (h : x ≠ y) : (x.toList == y.toList) = false ∧ (x.toList != y.toList) = true ∧ ¬ x.toList = y.toList := by
  have h1 : ¬ x.toList = y.toList := fun e => h (by rw [Lib.toList_data, Lib.toList_data] at e; exact ba_ext e)
  have h2 : (x.toList == y.toList) = false := by simpa using h1
  exact ⟨h2, by simp [bne, h2], h1⟩
/-- One element of a row. -/
theorem Tx.elem {w : World} {ao : Option Addr} {n cap : Nat} {l : List ByteArray} (h : Tx w (.slice ao n cap) l) (hn : 0 < l.length) : ∃ b off, ao = some ⟨b, off, none⟩ ∧ n = l.length ∧ ∀ j (hj : j < l.length), ∀ m : Bel w, m.val.cell? ⟨b, off + j, none⟩ = some (.string l[j]) := by
  obtain ⟨ao', cap', hv, -, hT⟩ := h
  injection hv with h1 h2 h3
  obtain ⟨b, off, h4, hb, hc⟩ := hT hn
  exact ⟨b, off, h1.trans h4, h2, fun j hj m => bl_cell m.below (hc j hj)⟩

theorem alike_drop (P Q : List Bs) (j : Nat) (h1 : j < P.length) (h2 : j < Q.length) (e : P[j] = Q[j]) : alikeL (P.drop j) (Q.drop j) = alikeL (P.drop (j + 1)) (Q.drop (j + 1)) + 1 := by
  rw [List.drop_eq_getElem_cons h1, List.drop_eq_getElem_cons h2, alikeL, if_pos e]
theorem alike_stop (P Q : List Bs) (j : Nat) (h : P.length ≤ j ∨ Q.length ≤ j ∨ ∃ (h1 : j < P.length) (h2 : j < Q.length), P[j] ≠ Q[j]) : alikeL (P.drop j) (Q.drop j) = 0 := by
  rcases h with h | h | ⟨h1, h2, e⟩
  · rw [List.drop_eq_nil_of_le h]
    cases Q.drop j <;> rfl
  · rw [List.drop_eq_nil_of_le h]
    cases P.drop j <;> rfl
  · rw [List.drop_eq_getElem_cons h1, List.drop_eq_getElem_cons h2, alikeL, if_neg e]

set_option maxRecDepth 8000 in
set_option maxHeartbeats 3200000 in
theorem alike_any (u v : Value) (p q : List ByteArray) (w : World) (hu : Tx w u p) (hv : Tx w v q) (hp : p.length ≤ 4611686018427387904) (hq : q.length ≤ 4611686018427387904) :
    Calls Tryd.prog 25 #[u, v] w fun e w' => e = .returned (.int .i64 (alikeL (bsL p) (bsL q) : Nat)) ∧ Below w.heap.size w w' := by
  have HU := Lib.hid hu
  have HV := Lib.hid hv
  obtain ⟨ao, ac, rfl, -, -⟩ := hu
  obtain ⟨bo, bc, rfl, -, -⟩ := hv
  obtain ⟨N, hN⟩ : ∃ N, alikeL (bsL p) (bsL q) = N := ⟨_, rfl⟩
  have HNN := Lib.hid hN
  clear hN
  go_enter Tryd.func25, Tryd.ntmps25
  go_wp2_with fail
  go_loopw [5] (fun s5 wr => ∃ j : Nat, s5 = .int .i64 j ∧ j ≤ p.length ∧ j ≤ q.length ∧ N = j + alikeL ((bsL p).drop j) ((bsL q).drop j) ∧ Below w.heap.size w wr) (fun s5 _ => p.length - (intOf s5).toNat)
  case atStart => exact ⟨0, rfl, Nat.zero_le _, Nat.zero_le _, by rw [← HNN.out]; simp, Below.refl _ _⟩
  case round =>
    obtain ⟨j, rfl, hj1, hj2, hN, hb⟩ := hrel
    have HB := Lib.hid hb
    have HN := Lib.hid hN
    have hU := HU.out.to hb
    have hV := HV.out.to hb
    clear hb hN
    have w3 : j < p.length → IntKind.i64.wrap ((j : Int) + 1) = (j : Int) + 1 := fun h => wrap_in _ (by omega) (by omega)
    by_cases h1 : j < p.length
    · obtain ⟨b, off, rfl, -, hc⟩ := hU.elem (by omega)
      have x1 := hc j h1
      have k1 : (j : Int) < (p.length : Int) := by omega
      have e1 : decide ((j : Int) < (p.length : Int)) = true := decide_eq_true k1
      by_cases h2 : j < q.length
      · obtain ⟨b', off', rfl, -, hc'⟩ := hV.elem (by omega)
        have x2 := hc' j h2
        have k2 : (j : Int) < (q.length : Int) := by omega
        have e2 : decide ((j : Int) < (q.length : Int)) = true := decide_eq_true k2
        have hP : j < (bsL p).length := by simpa using h1
        have hQ : j < (bsL q).length := by simpa using h2
        obtain ⟨x, hx⟩ : ∃ x, p[j] = x := ⟨_, rfl⟩
        obtain ⟨y, hy⟩ : ∃ y, q[j] = y := ⟨_, rfl⟩
        have hx' : (bsL p)[j] = x.data.toList := by simp [bsL, hx]
        have hy' : (bsL q)[j] = y.data.toList := by simp [bsL, hy]
        rw [hx] at x1
        rw [hy] at x2
        by_cases hxy : x = y
        · have hdr := alike_drop (bsL p) (bsL q) j hP hQ (by rw [hx', hy', hxy])
          have HD := Lib.hid hdr
          have w4 := w3 h1
          subst hxy
          clear hU hV hc hc' hx hy hx' hy' hP hQ hdr w3
          go_wp2_with fail
          refine region_bel wr (Below.refl _ _) (by kernel_rfl) (by kernel_rfl) ?_
          repeat (go_big_quiet_step (fail))
          refine wpQuiet_nil ?_
          intro m
          go_wp2_with fail
          go_roundw
          case rel => exact ⟨j + 1, by go_num, by omega, by omega, by rw [HN.out, HD.out]; omega, bl_to HB.out m.below⟩
          case measure => simp [intOf]; omega
        · have hst := alike_stop (bsL p) (bsL q) j (.inr (.inr ⟨hP, hQ, by rw [hx', hy']; exact fun e => hxy (ba_ext e)⟩))
          have HD := Lib.hid hst
          obtain ⟨q1, q2, q3⟩ := toList_ne hxy
          clear hU hV hc hc' hx hy hx' hy' hP hQ hst w3
          go_wp2_with fail
          refine region_bel wr (Below.refl _ _) (by kernel_rfl) (by kernel_rfl) ?_
          repeat (go_big_quiet_step (fail))
          refine wpQuiet_nil ?_
          intro m
          go_wp2_with fail
          go_ret
          exact ⟨ret_int (by rw [HNN.out, HN.out, HD.out]; simp), bl_to HB.out m.below⟩
      · have k2 : ¬ (j : Int) < (q.length : Int) := by omega
        have e2 : decide ((j : Int) < (q.length : Int)) = false := decide_eq_false k2
        have HD := Lib.hid (alike_stop (bsL p) (bsL q) j (.inr (.inl (by simp; omega))))
        clear hU hV hc w3
        go_wp2_with fail
        refine region_bel wr (Below.refl _ _) (by kernel_rfl) (by kernel_rfl) ?_
        repeat (go_big_quiet_step (fail))
        refine wpQuiet_nil ?_
        intro m
        go_wp2_with fail
        go_ret
        exact ⟨ret_int (by rw [HNN.out, HN.out, HD.out]; simp), bl_to HB.out m.below⟩
    · have k1 : ¬ (j : Int) < (p.length : Int) := by omega
      have e1 : decide ((j : Int) < (p.length : Int)) = false := decide_eq_false k1
      have HD := Lib.hid (alike_stop (bsL p) (bsL q) j (.inl (by simp; omega)))
      clear hU hV w3
      go_wp2_with fail
      refine region_bel wr (Below.refl _ _) (by kernel_rfl) (by kernel_rfl) ?_
      repeat (go_big_quiet_step (fail))
      refine wpQuiet_nil ?_
      intro m
      go_wp2_with fail
      go_ret
      exact ⟨ret_int (by rw [HNN.out, HN.out, HD.out]; simp), bl_to HB.out m.below⟩

set_option maxRecDepth 8000 in
set_option maxHeartbeats 3200000 in
theorem Within_any (u v : Value) (p q : List ByteArray) (w : World) (hu : Tx w u p) (hv : Tx w v q) (hp : p.length ≤ 4611686018427387904) (hq : q.length ≤ 4611686018427387904) :
    Calls Tryd.prog 11 #[u, v] w fun e w' => e = .returned (.bool (decide (alikeL (bsL p) (bsL q) = q.length))) ∧ Below w.heap.size w w' := by
  have HA := Lib.hid (alike_any u v p q w hu hv hp hq)
  obtain ⟨bo, bc, rfl, -, hB⟩ := hv
  obtain ⟨N, hN⟩ : ∃ N, alikeL (bsL p) (bsL q) = N := ⟨_, rfl⟩
  rw [hN] at HA ⊢
  clear hu hB
  go_enter Tryd.func11, Tryd.ntmps11
  go_wp2_with fail
  refine HA.out.mono ?_
  rintro e w' ⟨rfl, hb⟩
  have HB := Lib.hid hb
  clear hb
  go_wp2_with fail
  go_ret
  exact ⟨ret_bool (by by_cases h : N = q.length <;> simp [h] <;> omega), HB.out⟩

set_option maxRecDepth 8000 in
set_option maxHeartbeats 3200000 in
theorem samePath_any (u v : Value) (p : List ByteArray) (w : World) (hu : Tx w u p) (hv : Tx w v p) (hp : p.length ≤ 4611686018427387904) :
    Calls Tryd.prog 10 #[u, v] w fun e w' => e = .returned (.bool true) ∧ Below w.heap.size w w' := by
  have HU := Lib.hid hu
  have HV := Lib.hid hv
  obtain ⟨ao, ac, rfl, -, -⟩ := hu
  obtain ⟨bo, bc, rfl, -, -⟩ := hv
  go_enter Tryd.func10, Tryd.ntmps10
  go_wp2_with fail
  go_loopw [13] (fun s13 wr => ∃ j : Nat, s13 = .int .i64 j ∧ j ≤ p.length ∧ Below w.heap.size w wr) (fun s13 _ => p.length - (intOf s13).toNat)
  case atStart => exact ⟨0, rfl, Nat.zero_le _, Below.refl _ _⟩
  case round =>
    obtain ⟨j, rfl, hj, hb⟩ := hrel
    have HB := Lib.hid hb
    have hU := HU.out.to hb
    have hV := HV.out.to hb
    clear hb
    by_cases h1 : j < p.length
    · obtain ⟨b, off, rfl, -, hc⟩ := hU.elem (by omega)
      obtain ⟨b', off', rfl, -, hc'⟩ := hV.elem (by omega)
      have x1 := hc j h1
      have x2 := hc' j h1
      obtain ⟨x, hx⟩ : ∃ x, p[j] = x := ⟨_, rfl⟩
      rw [hx] at x1 x2
      have k1 : (j : Int) < (p.length : Int) := by omega
      have e1 : decide ((j : Int) < (p.length : Int)) = true := decide_eq_true k1
      have w4 : IntKind.i64.wrap ((j : Int) + 1) = (j : Int) + 1 := wrap_in _ (by omega) (by omega)
      clear hU hV hc hc' hx
      go_wp2_with fail
      refine region_bel wr (Below.refl _ _) (by kernel_rfl) (by kernel_rfl) ?_
      repeat (go_big_quiet_step (fail))
      refine wpQuiet_nil ?_
      intro m
      go_wp2_with fail
      go_roundw
      case rel => exact ⟨j + 1, by go_num, by omega, bl_to HB.out m.below⟩
      case measure => simp [intOf]; omega
    · obtain rfl : j = p.length := by omega
      have e1 : decide ((p.length : Int) < (p.length : Int)) = false := decide_eq_false (by omega)
      clear hU hV
      go_wp2_with fail
      go_ret
      exact ⟨rfl, HB.out⟩
end Go.Proofs.YtnfnjobgkpefdaaDoor
