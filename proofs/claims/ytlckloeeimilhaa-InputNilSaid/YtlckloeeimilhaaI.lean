/- A nil input; the walk of InputNil. -/
import Derived.Test.YtlckloeeimilhaaH
namespace Go.Proofs.Ytlckloeeimilhaa
set_option linter.unusedSimpArgs false
set_option linter.unusedVariables false
open Go.RowKit

theorem Take_nil (w : World) : Calls Try.prog 9 #[.pointer none] w fun e w' => e = .returned (.tuple #[zeroLine, .bool false, .int .i64 1]) ∧ Below w.heap.size w w' := by
  have HB := Lib.hid (bl_alloc w (.cells #[.string ⟨#[]⟩, .bool false] 37))
  go_enter Try.func9, Try.ntmps9
  go_wp2_with fail
  exact bodyPost_ret (v := .tuple #[zeroLine, .bool false, .int .i64 1]) (by simp [results, Try.results9, go_sem]) rfl ⟨rfl, HB.out⟩
theorem At_nil (w : World) : Calls Try.prog 10 #[.pointer none] w fun e w' => e = .returned (.int .i64 0) ∧ w = w' := by
  go_enter Try.func10, Try.ntmps10
  go_wp2
  go_ret
  exact ⟨rfl, rfl⟩
theorem Number_nil (w : World) : Calls Try.prog 11 #[.pointer none] w fun e w' => e = .returned (.int .i64 0) ∧ w = w' := by
  go_enter Try.func11, Try.ntmps11
  go_wp2
  go_ret
  exact ⟨rfl, rfl⟩
theorem Fresh_nil (w : World) : Calls Try.prog 12 #[.pointer none] w fun e w' => e = .returned (.bool false) ∧ w = w' := by
  go_enter Try.func12, Try.ntmps12
  go_wp2
  go_ret
  exact ⟨rfl, rfl⟩
theorem Data_nil (w : World) : Calls Try.prog 13 #[.pointer none] w fun e w' => e = .returned (.string ⟨#[]⟩) ∧ w = w' := by
  go_enter Try.func13, Try.ntmps13
  go_wp2
  go_ret
  exact ⟨rfl, rfl⟩
theorem Passed_nil (w : World) : Calls Try.prog 17 #[.pointer none] w fun e w' => e = .returned (.bool false) ∧ w = w' := by
  go_enter Try.func17, Try.ntmps17
  go_wp2
  go_ret
  exact ⟨rfl, rfl⟩
theorem Err_nil (w : World) : Calls Try.prog 21 #[.pointer none] w fun e w' => e = .returned (.int .i64 1) ∧ w = w' := by
  go_enter Try.func21, Try.ntmps21
  go_wp2
  go_ret
  exact ⟨rfl, rfl⟩
theorem Last_nil (w : World) : Calls Try.prog 14 #[.pointer none] w fun e w' => e = .returned (.bool false) ∧ Below w.heap.size w w' := by
  have HB : Hid (∀ n, Below w.heap.size w (w.drewN n)) := fun n => below_drewN (Below.refl _ _) n
  go_enter Try.func14, Try.ntmps14
  go_wp2_with fail
  go_quiet (fail)
  go_wp2_with fail
  go_ret
  exact ⟨rfl, HB.out _⟩

/-- The source that InputNil makes, and the line's box. -/
def NilI (w : World) (S bx j : Nat) (wr : World) : Prop :=
  ∃ tv xs, wr.heap[S]? = some (.cells #[tv, .slice none 0 0] 28 (0, 0)) ∧ wr.heap[bx]? = some (.cells #[.string ⟨#[]⟩, .bool false] 37 (0, 0)) ∧ wr.ownsRow w.heap.size 32 2 tv j xs ∧ Below w.heap.size w wr

set_option maxRecDepth 4000 in
set_option maxHeartbeats 3200000 in
theorem nil_any (n : Int) (w : World) : Calls Try.prog 5 #[.int .i64 n] w fun e w' => e = .returned (.bool true) ∧ Below w.heap.size w w' := by
  obtain ⟨i0, hi, hz0, hz1, hz2⟩ := info_parts info32
  have HN : Hid ((n < 0 ∨ 1024 < n) ∨ (¬ n < 0 ∧ ¬ 1024 < n)) := by show _ ∨ _; omega
  go_enter Try.func5, Try.ntmps5
  go_wp2_with fail
  refine (Take_nil _).mono ?_
  rintro e w1 ⟨rfl, hb1⟩
  have h1 : NilI w (w1.heap.size + 1) w1.heap.size 0 ((w1.alloc (.cells #[.string ⟨#[]⟩, .bool false] 37)).alloc (.cells #[.slice none 0 0, .slice none 0 0] 28)) := by
    have hb := bl_to hb1 (bl_to (bl_alloc w1 (.cells #[.string ⟨#[]⟩, .bool false] 37)) (bl_alloc _ (.cells #[.slice none 0 0, .slice none 0 0] 28)))
    refine ⟨_, [], ?_, ?_, World.ownsRow_nil _ _ _ _, hb⟩
    · have := heap_alloc_new (w1.alloc (.cells #[.string ⟨#[]⟩, .bool false] 37)) (.cells #[.slice none 0 0, .slice none 0 0] 28)
      rwa [show (w1.alloc (.cells #[.string ⟨#[]⟩, .bool false] 37)).heap.size = w1.heap.size + 1 by simp] at this
    · rw [heap_alloc_old _ _ (by simp)]; exact heap_alloc_new w1 _
  have H1 := Lib.hid h1
  have HSS : Hid (w.heap.size ≤ w1.heap.size) := hb1.size
  clear h1 hb1
  go_wp2_with fail
  go_loopw [8] (fun iv wr => ∃ j : Nat, j ≤ 3 ∧ iv = .int .i64 j ∧ NilI w (w1.heap.size + 1) w1.heap.size j wr) (fun iv _ => 3 - (intOf iv).toNat)
  case atStart => exact ⟨0, by omega, rfl, H1.out⟩
  case round =>
    obtain ⟨j, hj, rfl, tv, xs, hS, hbx, hrow, hbel⟩ := hrel
    by_cases hlt : j < 3
    · have HW := HSS.out
      have HSb := Lib.hid hS
      have HBx := Lib.hid hbx
      have HR := Lib.hid hrow
      have HBL := Lib.hid hbel
      have d0 := (blk_at hS 0 (v := tv) rfl).1
      have f0 := (blk_at hS 0 (v := tv) rfl).2
      have h63 : j + 1 ≤ maxLen := by unfold maxLen; omega
      have hby : (j + 1) * 24 ≤ 140737488355328 := by omega
      have hws := hbel.size
      have e0 : ∀ o, (wr.alloc o).cell? ⟨w1.heap.size + 1, 0, none⟩ = some tv := fun o => bl_cell (bl_alloc wr o) d0
      clear hS hbx hrow hbel
      go_wp2_with (at_builtin; go_must (refine wpList_append_lies _ rfl (.tmp 25) (.tmp 27) 25 rfl w.heap.size 32 i0 (.agg #[(.string ⟨#[]⟩), (.int .i64 0)]) 2 24 Try.underlying25 hi hz0 hz1 hz2 rfl (by decide) tv j xs rfl (row_to (bl_alloc wr _) HR.out) ⟨wr.heap.size, 0, none⟩ 1 1 [.string ⟨#[]⟩, .int .i64 31] rfl rfl (cells_two wr _ _ 32) (by intro u hu; simp at hu; rcases hu with rfl | rfl <;> rfl) (by omega) h63 hby (by simp; omega) (wr.heap.size + 1) (by simp) ?_))
      intro g2 cap2 w3 hown hgrow hat hlt2
      have hf2 : Fr (fun i => tv.ownBlock = some i) wr w3 := ((Fr.refl _ wr).alloc _).trans (Fr.ofGrown hgrow) (fun i _ hi => hi)
      have hS3 := (hf2.block _ (lt_of_block HSb.out) (row_ne HR.out HSb.out (by decide))).trans HSb.out
      have hB3 := (hf2.block _ (lt_of_block HBx.out) (row_ne HR.out HBx.out (by decide))).trans HBx.out
      have hb3 := HBL.out.trans (hf2.toBelow hws (fun i _ hi => (World.ownsRow.lt HR.out i hi).1))
      obtain ⟨y0, y1⟩ := blk_at hS3 0 (v := tv) rfl
      have hfs : Fr (fun i => i = w1.heap.size + 1) w3 (w3.setCell ⟨w1.heap.size + 1, 0, none⟩ (.slice (some ⟨g2, 0, none⟩) (j + 1) cap2)) := (Fr.refl (fun i => i = w1.heap.size + 1) w3).setCell (p := ⟨w1.heap.size + 1, 0, none⟩) rfl _
      have HF : Hid (NilI w (w1.heap.size + 1) w1.heap.size (j + 1) (w3.setCell ⟨w1.heap.size + 1, 0, none⟩ (.slice (some ⟨g2, 0, none⟩) (j + 1) cap2))) := by
        refine ⟨_, _, heap_setCell_same _ _ _ _ _ _ _ hS3, (hfs.block _ (lt_of_block hB3) (fun e => by have e2 : w1.heap.size = w1.heap.size + 1 := e; omega)).trans hB3, row_fr hfs hown (fun g hg e => by have e2 : g = w1.heap.size + 1 := e; subst e2; exact row_ne hown hS3 (by decide) hg), hb3.setCell (by show w.heap.size ≤ w1.heap.size + 1; omega) _⟩
      clear hown hgrow hat hlt2 hf2 hS3 hB3 hb3 hfs d0 f0 e0
      go_wp2_with fail
      go_roundw
      case rel => exact ⟨j + 1, by omega, by go_num, HF.out⟩
      case measure => simp [intOf]; omega
    · have d1 := (blk_at hS 1 (v := .slice none 0 0) rfl).1
      have b0 := (blk_at hbx 0 (v := .string ⟨#[]⟩) rfl).1
      have b1 := (blk_at hbx 1 (v := .bool false) rfl).1
      have HBEL := Lib.hid hbel
      clear hrow hS hbx hbel
      rcases HN.out with hn | ⟨hn0, hn1⟩
      · rcases hn with hn | hn
        · clear HN
          go_wp2_with (first
            | (go_at_call 6; refine (lives_any _).mono ?_; rintro e w2 ⟨rfl, hb2⟩; have b0 := bl_cell hb2 b0; have b1 := bl_cell hb2 b1; have d1 := bl_cell hb2 d1)
            | (go_at_call 21; refine (Err_nil _).mono ?_; rintro e w' ⟨rfl, rfl⟩)
            | (go_at_call 14; refine (Last_nil _).mono ?_; rintro e w3 ⟨rfl, hb3⟩; have d1 := bl_cell hb3 d1)
            | (go_at_call 11; refine (Number_nil _).mono ?_; rintro e w' ⟨rfl, rfl⟩)
            | (go_at_call 10; refine (At_nil _).mono ?_; rintro e w' ⟨rfl, rfl⟩)
            | (go_at_call 12; refine (Fresh_nil _).mono ?_; rintro e w' ⟨rfl, rfl⟩)
            | (go_at_call 17; refine (Passed_nil _).mono ?_; rintro e w' ⟨rfl, rfl⟩)
            | (go_at_call 13; refine (Data_nil _).mono ?_; rintro e w' ⟨rfl, rfl⟩)
            | (go_at_call 8; refine (New_no _ _ _ _ (.inl hn)).mono ?_; rintro e w' ⟨rfl, rfl⟩))
          go_ret
          exact ⟨rfl, HBEL.out.trans ((bl_to hb2 hb3).mono HBEL.out.size)⟩
        · clear HN
          have hn0 : ¬ n < 0 := by omega
          go_wp2_with (first
            | (go_at_call 6; refine (lives_any _).mono ?_; rintro e w2 ⟨rfl, hb2⟩; have b0 := bl_cell hb2 b0; have b1 := bl_cell hb2 b1; have d1 := bl_cell hb2 d1)
            | (go_at_call 21; refine (Err_nil _).mono ?_; rintro e w' ⟨rfl, rfl⟩)
            | (go_at_call 14; refine (Last_nil _).mono ?_; rintro e w3 ⟨rfl, hb3⟩; have d1 := bl_cell hb3 d1)
            | (go_at_call 11; refine (Number_nil _).mono ?_; rintro e w' ⟨rfl, rfl⟩)
            | (go_at_call 10; refine (At_nil _).mono ?_; rintro e w' ⟨rfl, rfl⟩)
            | (go_at_call 12; refine (Fresh_nil _).mono ?_; rintro e w' ⟨rfl, rfl⟩)
            | (go_at_call 17; refine (Passed_nil _).mono ?_; rintro e w' ⟨rfl, rfl⟩)
            | (go_at_call 13; refine (Data_nil _).mono ?_; rintro e w' ⟨rfl, rfl⟩)
            | (go_at_call 8; refine (New_no _ _ _ _ (.inr hn)).mono ?_; rintro e w' ⟨rfl, rfl⟩))
          go_ret
          exact ⟨rfl, HBEL.out.trans ((bl_to hb2 hb3).mono HBEL.out.size)⟩
      · clear HN
        go_wp2_with (first
          | (go_at_call 6; refine (lives_any _).mono ?_; rintro e w2 ⟨rfl, hb2⟩; have b0 := bl_cell hb2 b0; have b1 := bl_cell hb2 b1; have d1 := bl_cell hb2 d1)
          | (go_at_call 21; refine (Err_nil _).mono ?_; rintro e w' ⟨rfl, rfl⟩)
          | (go_at_call 14; refine (Last_nil _).mono ?_; rintro e w3 ⟨rfl, hb3⟩; have d1 := bl_cell hb3 d1)
          | (go_at_call 11; refine (Number_nil _).mono ?_; rintro e w' ⟨rfl, rfl⟩)
          | (go_at_call 10; refine (At_nil _).mono ?_; rintro e w' ⟨rfl, rfl⟩)
          | (go_at_call 12; refine (Fresh_nil _).mono ?_; rintro e w' ⟨rfl, rfl⟩)
          | (go_at_call 17; refine (Passed_nil _).mono ?_; rintro e w' ⟨rfl, rfl⟩)
          | (go_at_call 13; refine (Data_nil _).mono ?_; rintro e w' ⟨rfl, rfl⟩)
          | (go_at_call 8; refine (New_nil _ _ _).mono ?_; rintro e w' ⟨rfl, rfl⟩))
        go_ret
        exact ⟨rfl, HBEL.out.trans ((bl_to hb2 hb3).mono HBEL.out.size)⟩
end Go.Proofs.Ytlckloeeimilhaa
