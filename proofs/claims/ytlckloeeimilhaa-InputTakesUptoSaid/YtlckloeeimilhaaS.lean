/- InputTakes: too many inputs. -/
import Derived.Test.YtlckloeeimilhaaW
namespace Go.Proofs.Ytlckloeeimilhaa
set_option linter.unusedSimpArgs false
set_option linter.unusedVariables false
open Go.RowKit

set_option maxRecDepth 100000 in
set_option maxHeartbeats 25600000 in
theorem takes_long (v : Value) (l : List Tl) (sep : Bool) (times : Int) (w : World) (h : Tv w v l) (hl : 1024 < l.length) (hl2 : l.length ≤ 4194304) :
    Calls Try.prog 4 #[v, .bool sep, .int .i64 times] w fun e w' => e = .returned (.bool true) ∧ Below w.heap.size w w' := by
  have HT := Lib.hid (told_any v l w h (by omega))
  obtain ⟨va, vc, rfl, _, _⟩ := h
  obtain ⟨tl, htl⟩ : ∃ tl, toldL l = tl := ⟨_, rfl⟩
  have hlen : tl.length = l.length := by rw [← htl]; exact List.length_map _
  rw [htl] at HT
  rw [← hlen] at HT hl
  clear htl
  rw [← hlen]
  clear hlen hl2
  go_enter Try.func4, Try.ntmps4
  go_wp2_with fail
  refine HT.out.mono ?_
  rintro e w1 ⟨tv, rfl, hr1, hb1⟩
  obtain ⟨ta, tc, rfl, _, _⟩ := row_shape hr1
  have HB2 := Lib.hid (bl_to hb1 (bl_alloc w1 (.cells #[.slice ta tl.length tc, .slice none 0 0] 28)))
  have hbk := heap_alloc_new w1 (.cells #[.slice ta tl.length tc, .slice none 0 0] 28)
  have z1 : (1024 : Int) < (tl.length : Int) := by omega
  have z2 : decide ((1024 : Int) < (tl.length : Int)) = true := decide_eq_true z1
  obtain ⟨s1, -⟩ := blk_at hbk 1 (v := .slice none 0 0) rfl
  have HS1 := Lib.hid s1
  clear hr1 hb1 hbk HT s1
  go_wp2_with fail
  refine (New_no _ _ _ _ (.inr z1)).mono ?_
  rintro e w3 ⟨rfl, rfl⟩
  have HLI := Lib.hid (lives_any (w1.alloc (.cells #[.slice ta tl.length tc, .slice none 0 0] 28)))
  go_wp2_with fail
  refine HLI.out.mono ?_
  rintro e w4 ⟨rfl, hb4⟩
  have s4 := bl_cell hb4 HS1.out
  have HB4 := Lib.hid (bl_to HB2.out hb4)
  clear hb4
  go_wp2_with fail
  first | go_quiet (fail) | skip
  go_wp2_with fail
  go_ret
  exact ⟨rfl, by first | exact HB4.out | exact HB4.out.trans ((below_drewN (Below.refl _ _) _).mono HB4.out.size)⟩
end Go.Proofs.Ytlckloeeimilhaa
