/- lives. -/
import Derived.Test.YtlckloeeimilhaaG
namespace Go.Proofs.Ytlckloeeimilhaa
set_option linter.unusedSimpArgs false
set_option linter.unusedVariables false
open Go.RowKit

abbrev anb : ByteArray := ⟨#[97, 10, 98]⟩
abbrev cn : ByteArray := ⟨#[99, 10]⟩
theorem sp_anb : splitL anb = [(⟨#[97]⟩, true), (⟨#[98]⟩, false)] := by
  rw [splitL_cons (by decide)]
  rw [show rest anb = ⟨#[98]⟩ from by rfl, show line anb = ⟨#[97]⟩ from by rfl, show nlIs anb = true from by rfl]
  rw [splitL_cons (by decide)]
  rw [show rest ⟨#[98]⟩ = ⟨#[]⟩ from by rfl, show line ⟨#[98]⟩ = ⟨#[98]⟩ from by rfl, show nlIs ⟨#[98]⟩ = false from by rfl]
  rw [splitL_nil rfl]
theorem sp_cn : splitL cn = [(⟨#[99]⟩, true)] := by
  rw [splitL_cons (by decide)]
  rw [show rest cn = ⟨#[]⟩ from by rfl, show line cn = ⟨#[99]⟩ from by rfl, show nlIs cn = true from by rfl]
  rw [splitL_nil rfl]
abbrev tl2 : List Tl := [(anb, 0), (cn, 0)]
theorem lv0 : look0 tl2 false = ⟨2, false, 1, anb, [(⟨#[98]⟩, false)], 1, ⟨#[97]⟩, true, 0, 1, true, 0, false, ⟨#[]⟩, false, 0, 0, 0, false, ⟨#[]⟩⟩ := by
  unfold look0
  rw [lookL_ok rfl, sp_anb, lookL_fin rfl]
  rfl
theorem lv1 : looked tl2 ⟨2, false, 1, anb, [(⟨#[98]⟩, false)], 1, ⟨#[97]⟩, true, 0, 1, true, 0, false, ⟨#[]⟩, false, 0, 0, 0, false, ⟨#[]⟩⟩ = ⟨2, false, 1, anb, [], 2, ⟨#[98]⟩, false, 0, 2, true, 0, false, ⟨#[]⟩, false, 0, 0, 0, false, ⟨#[]⟩⟩ := by
  unfold looked
  rw [lookL_fin rfl]
  rfl
theorem lv2 : looked tl2 ⟨2, false, 1, anb, [], 2, ⟨#[98]⟩, false, 0, 2, true, 0, false, ⟨#[97]⟩, true, 0, 1, 1, false, anb⟩ = ⟨2, false, 2, cn, [], 1, ⟨#[99]⟩, true, 1, 1, true, 0, false, ⟨#[97]⟩, true, 0, 1, 1, false, anb⟩ := by
  unfold looked
  rw [show tl2.drop _ = [(cn, 0)] from rfl, lookL_ok rfl, sp_cn, lookL_fin rfl]
  rfl
theorem tk1 : took tl2 ⟨2, false, 1, anb, [(⟨#[98]⟩, false)], 1, ⟨#[97]⟩, true, 0, 1, true, 0, false, ⟨#[]⟩, false, 0, 0, 0, false, ⟨#[]⟩⟩ = ⟨2, false, 1, anb, [], 2, ⟨#[98]⟩, false, 0, 2, true, 0, false, ⟨#[97]⟩, true, 0, 1, 1, false, anb⟩ := by
  unfold took; rw [lv1]; rfl
theorem tk2 : took tl2 ⟨2, false, 1, anb, [], 2, ⟨#[98]⟩, false, 0, 2, true, 0, false, ⟨#[97]⟩, true, 0, 1, 1, false, anb⟩ = ⟨2, false, 2, cn, [], 1, ⟨#[99]⟩, true, 1, 1, true, 0, false, ⟨#[98]⟩, false, 0, 2, 2, false, anb⟩ := by
  unfold took; rw [lv2]; rfl

set_option maxRecDepth 4000 in
set_option maxHeartbeats 3200000 in
theorem lives_any (w : World) : Calls Try.prog 6 #[] w fun e w' => e = .returned (.bool true) ∧ Below w.heap.size w w' := by
  have hrow := World.ownsRow_lit (base := w.heap.size) (size := 2) (e := 32) w #[.string anb, .int .i64 0, .string cn, .int .i64 0] 2 (Nat.le_refl _) (by decide) rfl
  have hs0 : Src ((w.alloc (.cells #[.string anb, .int .i64 0, .string cn, .int .i64 0] 32)).alloc (.cells #[.slice (some ⟨w.heap.size, 0, none⟩) 2 2, .slice none 0 0] 28)) w.heap.size (w.heap.size + 1) (.slice (some ⟨w.heap.size, 0, none⟩) 2 2) (.slice none 0 0) tl2 [] := by
    refine ⟨?_, row_to (bl_alloc _ _) hrow, World.ownsRow_nil _ _ _ _, by omega⟩
    have := heap_alloc_new (w.alloc (.cells #[.string anb, .int .i64 0, .string cn, .int .i64 0] 32)) (.cells #[.slice (some ⟨w.heap.size, 0, none⟩) 2 2, .slice none 0 0] 28)
    rwa [show (w.alloc (.cells #[.string anb, .int .i64 0, .string cn, .int .i64 0] 32)).heap.size = w.heap.size + 1 by simp] at this
  have hb0 : Below w.heap.size w ((w.alloc (.cells #[.string anb, .int .i64 0, .string cn, .int .i64 0] 32)).alloc (.cells #[.slice (some ⟨w.heap.size, 0, none⟩) 2 2, .slice none 0 0] 28)) := bl_to (bl_alloc _ _) (bl_alloc _ _)
  have hsz : ∀ d ∈ tl2, d.1.size ≤ 5864062014804 := by
    intro d hd
    simp at hd
    rcases hd with rfl | rfl
    · show 3 ≤ _; omega
    · show 2 ≤ _; omega
  have HSZ := Lib.hid hsz
  have HS0 := Lib.hid hs0
  have HB0 := Lib.hid hb0
  clear hrow hs0 hb0 hsz
  go_enter Try.func6, Try.ntmps6
  go_wp2_with fail
  refine (New_yes w.heap.size (w.heap.size + 1) _ _ tl2 false 2 rfl _ HS0.out (by decide) HSZ.out HB0.out.size).mono ?_
  rintro e w1 ⟨rfl, lv, av, i1, s1, t1, _⟩
  rw [lv0] at i1 s1
  have HB1 := Lib.hid (HB0.out.trans t1.below)
  generalize ((w.alloc (.cells #[.string anb, .int .i64 0, .string cn, .int .i64 0] 32)).alloc (.cells #[.slice (some ⟨w.heap.size, 0, none⟩) 2 2, .slice none 0 0] 28)).heap.size = X at *
  clear HS0 HB0 t1
  have I1 := Lib.hid i1
  have S1 := Lib.hid s1
  clear i1 s1
  go_wp2_with fail
  refine (Take_go I1.out S1.out rfl rfl rfl (by decide) (by decide) HSZ.out (by decide) (by decide) I1.out.lt).mono ?_
  rintro e w2 ⟨_, hT⟩
  obtain ⟨rfl, lvb, avb, i2, s2, t2, _⟩ := hT (by rw [lv1])
  rw [tk1] at i2 s2
  have I2 := Lib.hid (i2.to (bl_alloc w2 (.cells #[.string ⟨#[97]⟩, .bool true] 37)))
  have S2 := Lib.hid (s2.to (bl_alloc w2 (.cells #[.string ⟨#[97]⟩, .bool true] 37)))
  have HB2 : Hid (Below w.heap.size w (w2.alloc (.cells #[.string ⟨#[97]⟩, .bool true] 37))) := (HB1.out.trans t2.below).trans ((bl_alloc w2 _).mono i2.lt)
  have K2 := Lib.hid (heap_alloc_new w2 (.cells #[.string ⟨#[97]⟩, .bool true] 37))
  clear hT i2 s2 t2
  go_wp2_with fail
  refine (Take_go I2.out S2.out rfl rfl rfl (by decide) (by decide) HSZ.out (by decide) (by decide) I2.out.lt).mono ?_
  rintro e w3 ⟨_, hT⟩
  obtain ⟨rfl, lvc, avc, i3, s3, t3, _⟩ := hT (by rw [lv2])
  rw [tk2] at i3 s3
  have k3 := t3.keep _ _ _ _ K2.out (by decide) (by decide) (by decide)
  have I3 := Lib.hid (i3.to (bl_alloc w3 (.cells #[.string ⟨#[98]⟩, .bool false] 37)))
  have HB3 : Hid (Below w.heap.size w (w3.alloc (.cells #[.string ⟨#[98]⟩, .bool false] 37))) := (HB2.out.trans t3.below).trans ((bl_alloc w3 _).mono i3.lt)
  have q0 := bl_cell (bl_alloc w3 (.cells #[.string ⟨#[98]⟩, .bool false] 37)) (blk_at k3 0 (v := .string ⟨#[97]⟩) rfl).1
  have q1 := bl_cell (bl_alloc w3 (.cells #[.string ⟨#[98]⟩, .bool false] 37)) (blk_at k3 1 (v := .bool true) rfl).1
  obtain ⟨ao, cap, rfl, _⟩ := row_shape s3.asked
  have q2 := bl_cell (bl_alloc w3 (.cells #[.string ⟨#[98]⟩, .bool false] 37)) (blk_at s3.blk 1 rfl).1
  clear hT i3 s3 t3 k3
  go_wp2_with (first
    | (go_at_call 11; refine (Number_any I3.out).mono ?_; rintro e w' ⟨rfl, rfl⟩)
    | (go_at_call 14; refine (Last_any I3.out).mono ?_; rintro e w4 ⟨rfl, hb4⟩; have q2 := bl_cell hb4 q2)
    | (go_at_call 8; refine (New_nil _ _ _).mono ?_; rintro e w' ⟨rfl, rfl⟩))
  go_ret
  exact ⟨rfl, HB3.out.trans (hb4.mono HB3.out.size)⟩
end Go.Proofs.Ytlckloeeimilhaa
