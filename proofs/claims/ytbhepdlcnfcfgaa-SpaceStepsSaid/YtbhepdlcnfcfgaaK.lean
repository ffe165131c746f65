/- A step (do) on a nil space; the walk of SpaceNil. -/
import Derived.Test.YtbhepdlcnfcfgaaN
namespace Go.Proofs.Ytbhepdlcnfcfgaa
set_option linter.unusedSimpArgs false
set_option linter.unusedVariables false
open Go.RowKit

abbrev stepVal (x : Stp) : Value := .agg #[.int .i64 x.k, .string x.t, .int .u8 x.ik, .string x.it]

theorem ret3_c {a : Value} {b : Value} {c d : Int} (h : c = d) : Ending.returned (.tuple #[a, b, .int .i64 c]) = .returned (.tuple #[a, b, .int .i64 d]) := by rw [h]

set_option maxHeartbeats 3200000 in
theorem do_nil (x : Stp) (w : World) (ht : x.t.size ≤ 140737488355328) :
    Calls Try.prog 27 #[.pointer none, stepVal x] w fun e w' => e = .returned (.tuple #[.bool false, .slice none 0 0, .int .i64 (if 0 ≤ x.k ∧ x.k ≤ 9 then 1 else 0)]) ∧ Below w.heap.size w w' := by
  obtain ⟨k, t, ik, it⟩ := x
  unfold stepVal
  simp only at *
  have HA := Lib.hid (show ∀ o, Below w.heap.size w (w.alloc o) from fun o => (Below.refl _ _).alloc (Nat.le_refl _) _)
  by_cases hk : 0 ≤ k ∧ k ≤ 9
  · have HK : Hid ((if 0 ≤ k ∧ k ≤ 9 then (1 : Int) else 0) = 1) := by show _ = _; rw [if_pos hk]
    rw [HK.out]
    clear HK
    rcases (show k = 0 ∨ k = 1 ∨ k = 2 ∨ k = 3 ∨ k = 4 ∨ k = 5 ∨ k = 6 ∨ k = 7 ∨ k = 8 ∨ k = 9 by omega) with rfl | rfl | rfl | rfl | rfl | rfl | rfl | rfl | rfl | rfl
    all_goals
      clear hk
      go_enter Try.func27, Try.ntmps27
      go_wp2_with (first
        | (go_at_call 11; refine (Set_nil t _ ht).mono ?_; rintro e w1 ⟨rfl, hb⟩)
        | (go_at_call 17; refine (Join_nil t _ ht).mono ?_; rintro e w1 ⟨rfl, hb⟩)
        | (go_at_call 24; refine (Get_nil _).mono ?_; rintro e w1 ⟨rfl, rfl⟩)
        | (go_at_call 14; refine (GetMore_nil _).mono ?_; rintro e w1 ⟨rfl, rfl⟩)
        | (go_at_call 12; refine (Put_nil _).mono ?_; rintro e w1 ⟨rfl, rfl⟩)
        | (go_at_call 13; refine (PutMore_nil _).mono ?_; rintro e w1 ⟨rfl, rfl⟩)
        | (go_at_call 23; refine (Swap_nil _).mono ?_; rintro e w1 ⟨rfl, rfl⟩)
        | (go_at_call 26; refine (Drop_nil _).mono ?_; rintro e w1 ⟨rfl, hb⟩)
        | (go_at_call 18; refine (Push_nil ik it _).mono ?_; rintro e w1 ⟨rfl, hb⟩)
        | (go_at_call 22; refine (Take_nil _).mono ?_; rintro e w1 ⟨rfl, rfl⟩))
      go_ret3
      first | exact ⟨rfl, HA.out _⟩ | exact ⟨rfl, bl_to (HA.out _) hb⟩
  · have HK : Hid ((if 0 ≤ k ∧ k ≤ 9 then (1 : Int) else 0) = 0) := by show _ = _; rw [if_neg hk]
    rw [HK.out]
    clear HK
    have n0 : (k == 0) = false := by simp; omega
    have n1 : (k == 1) = false := by simp; omega
    have n2 : (k == 2) = false := by simp; omega
    have n3 : (k == 3) = false := by simp; omega
    have n4 : (k == 4) = false := by simp; omega
    have n5 : (k == 5) = false := by simp; omega
    have n6 : (k == 6) = false := by simp; omega
    have n7 : (k == 7) = false := by simp; omega
    have n8 : (k == 8) = false := by simp; omega
    have n9 : (k == 9) = false := by simp; omega
    go_enter Try.func27, Try.ntmps27
    go_wp2_with fail
    go_ret3
    exact ⟨rfl, HA.out _⟩

/-- A script that came in. -/
def Script (w : World) (v : Value) (xs : List Stp) : Prop := Rd w v xs.length 4 (xs.flatMap stepCells)

theorem Script.shape {w : World} {v : Value} {xs : List Stp} (h : Script w v xs) : ∃ ao cap, v = .slice ao xs.length cap ∧ (0 < xs.length → ∃ b off, ao = some ⟨b, off, none⟩ ∧ b < w.heap.size ∧ ∀ i (hi : i < xs.length),
    w.cell? ⟨b, off + i * 4, none⟩ = some (.int .i64 xs[i].k) ∧ w.cell? ⟨b, off + i * 4 + 1, none⟩ = some (.string xs[i].t) ∧ w.cell? ⟨b, off + i * 4 + 2, none⟩ = some (.int .u8 xs[i].ik) ∧ w.cell? ⟨b, off + i * 4 + 3, none⟩ = some (.string xs[i].it)) := by
  obtain ⟨_, ao, cap, rfl, h2⟩ := h
  refine ⟨ao, cap, rfl, fun hn => ?_⟩
  obtain ⟨b, off, rfl, hl, hc⟩ := h2 hn
  refine ⟨b, off, rfl, hl, fun i hi => ?_⟩
  have hf := flat_get (f := stepCells) (sz := 4) (fun _ => rfl) xs i
  exact ⟨hc _ _ (hf 0 hi (by omega)), hc _ _ (hf 1 hi (by omega)), hc _ _ (hf 2 hi (by omega)), hc _ _ (hf 3 hi (by omega))⟩

set_option maxHeartbeats 3200000 in
theorem nil_any (v : Value) (xs : List Stp) (w : World) (hv : Script w v xs) (ht : ∀ x ∈ xs, x.t.size ≤ 140737488355328) (hn : xs.length ≤ 4611686018427387904) :
    Calls Try.prog 8 #[v] w fun e w' => e = .returned (.bool true) ∧ Below w.heap.size w w' := by
  obtain ⟨ao, cap, rfl, hcells⟩ := hv.shape
  clear hv
  have HT := Lib.hid ht
  have HC := Lib.hid hcells
  clear ht hcells
  go_enter Try.func8, Try.ntmps8
  go_wp2
  go_loopw [4] (fun i wr => ∃ j : Nat, j ≤ xs.length ∧ i = .int .i64 j ∧ Below w.heap.size w wr) (fun i _ => xs.length - (intOf i).toNat)
  case atStart => exact ⟨0, Nat.zero_le _, rfl, Below.refl _ _⟩
  case round =>
    obtain ⟨j, hj, rfl, hbel⟩ := hrel
    by_cases hlt : j < xs.length
    · obtain ⟨b, off, rfl, hbl, hc⟩ := HC.out (by omega)
      obtain ⟨c0, c1, c2, c3⟩ := hc j hlt
      have htx := HT.out _ (List.getElem_mem hlt)
      have k0 := (hbel.cell (p := ⟨b, off + j * 4, none⟩) hbl).trans c0
      have k1 := (hbel.cell (p := ⟨b, off + j * 4 + 1, none⟩) hbl).trans c1
      have k2 := (hbel.cell (p := ⟨b, off + j * 4 + 2, none⟩) hbl).trans c2
      have k3 := (hbel.cell (p := ⟨b, off + j * 4 + 3, none⟩) hbl).trans c3
      generalize xs[j] = x at *
      clear c0 c1 c2 c3 hc
      by_cases hx : 0 ≤ x.k ∧ x.k ≤ 9
      · have HX := Lib.hid (if_pos hx : (if 0 ≤ x.k ∧ x.k ≤ 9 then (1 : Int) else 0) = 1)
        obtain ⟨hx0, hx9⟩ := hx
        go_wp2_with (go_at_call 27; refine (do_nil x _ htx).mono ?_; rintro e w1 ⟨rfl, hb1⟩; rw [HX.out]; have k0 := bl_cell hb1 k0)
        go_roundw
        case rel => exact ⟨j + 1, by omega, by go_num, bl_to hbel hb1⟩
        case measure => simp [intOf]; omega
      · have HX := Lib.hid (if_neg hx : (if 0 ≤ x.k ∧ x.k ≤ 9 then (1 : Int) else 0) = 0)
        by_cases hx0 : 0 ≤ x.k
        · have hx9 : ¬ x.k ≤ 9 := by omega
          go_wp2_with (go_at_call 27; refine (do_nil x _ htx).mono ?_; rintro e w1 ⟨rfl, hb1⟩; rw [HX.out]; have k0 := bl_cell hb1 k0)
          go_roundw
          case rel => exact ⟨j + 1, by omega, by go_num, bl_to hbel hb1⟩
          case measure => simp [intOf]; omega
        · go_wp2_with (go_at_call 27; refine (do_nil x _ htx).mono ?_; rintro e w1 ⟨rfl, hb1⟩; rw [HX.out]; have k0 := bl_cell hb1 k0)
          go_roundw
          case rel => exact ⟨j + 1, by omega, by go_num, bl_to hbel hb1⟩
          case measure => simp [intOf]; omega
    · go_wp2_with (first
        | (go_at_call 25; refine (First_nil _).mono ?_; rintro e w1 ⟨rfl, hb1⟩)
        | (go_at_call 9; refine (begins_any _).mono ?_; rintro e w2 ⟨rfl, hb2⟩)
        | (go_at_call 16; refine (Pattern_nil _).mono ?_; rintro e w' ⟨rfl, rfl⟩)
        | (go_at_call 15; refine (Hold_nil _).mono ?_; rintro e w' ⟨rfl, rfl⟩)
        | (go_at_call 20; refine (Queue_nil _).mono ?_; rintro e w' ⟨rfl, rfl⟩)
        | (go_at_call 19; refine (Used_nil _).mono ?_; rintro e w' ⟨rfl, rfl⟩))
      go_ret
      exact ⟨by simp, bl_to hbel (bl_to hb1 hb2)⟩

end Go.Proofs.Ytbhepdlcnfcfgaa
