/- The walk of ArgsNames. -/
import Derived.Test.YtbigolappdlhcaaZG
namespace Go.Proofs.Ytbigolappdlhcaa
set_option linter.unusedSimpArgs false
set_option linter.unusedVariables false
open Go.RowKit

set_option maxRecDepth 100000 in
set_option maxHeartbeats 6400000 in
theorem names_any (t : ByteArray) (v : Value) (l : List ByteArray) (w : World) (ht : t.size ≤ 9223372036854775807) (hl : Ls w v l) : Calls Try.prog 7 #[.string t, v] w fun e w' => e = .returned (.bool true) ∧ Below w.heap.size w w' := by
  have HL := Lib.hid hl
  obtain ⟨la, lcap, rfl, _⟩ := id hl.tz.tx
  have hln := hl.ln
  have hw := wrap_in ((l.length : Int) + 3) (by omega) (by omega)
  clear hl
  by_cases hbig : 65536 < l.length + 3
  · have z1 : (65536 : Int) < (l.length : Int) + 3 := by omega
    go_enter Try.func7, Try.ntmps7
    go_wp2_with fail
    refine (begins_any _).mono ?_
    rintro e w1 ⟨rfl, hb1⟩
    go_wp2_with fail
    go_ret
    exact ⟨rfl, hb1⟩
  · have z1 : decide ((65536 : Int) < (l.length : Int) + 3) = false := decide_eq_false (by omega)
    have HR1 := Lib.hid (fun W u (hu : Tz W u ([⟨#[45, 101]⟩, t, ⟨#[45, 45]⟩] ++ l)) => read_isM (a := oneA false t l) (read_names1 t l (by omega)) rfl hu (by
      intro s hs
      simp at hs
      rcases hs with rfl | rfl | rfl | hs
      · show 2 ≤ _; omega
      · exact ht
      · show 2 ≤ _; omega
      · have := HL.out.sz s hs; omega))
    have HR2 := Lib.hid (fun W u (hu : Tz W u ([⟨#[45, 45]⟩, t] ++ l)) => read_isM (a := oneA false t l) (read_names2 t l (by omega)) rfl hu (by
      intro s hs
      simp at hs
      rcases hs with rfl | rfl | hs
      · show 2 ≤ _; omega
      · exact ht
      · have := HL.out.sz s hs; omega))
    have hle : l.length ≤ 65533 := by omega
    clear hbig
    go_enter Try.func7, Try.ntmps7
    go_wp2_with fail
    refine (begins_any _).mono ?_
    rintro e w1 ⟨rfl, hb1⟩
    have HB1 := Lib.hid hb1
    have HB2 := Lib.hid (bl_to hb1 (bl_alloc w1 (.cells #[.string ⟨#[45, 101]⟩, .string t, .string ⟨#[45, 45]⟩] 9)))
    have HO := Lib.hid (out_block (base := w.heap.size) (n := 3) (l := [⟨#[45, 101]⟩, t, ⟨#[45, 45]⟩]) rfl hb1.size (by omega) (heap_alloc_new w1 (.cells #[.string ⟨#[45, 101]⟩, .string t, .string ⟨#[45, 45]⟩] 9)))
    have hbs := hb1.size
    clear hb1
    go_wp2_with (at_builtin; go_must (refine wpList_append_texts rfl (.tmp 19) (.tmp 20) rfl w.heap.size _ [⟨#[45, 101]⟩, t, ⟨#[45, 45]⟩] rfl HO.out _ l rfl (HL.out.tz.to HB2.out) (by simp) (by omega) (by simp; omega) ?_))
    intro v3 w3 ho3 hb3
    obtain ⟨va3, vc3, rfl⟩ := row_slice ho3
    have HB3 := Lib.hid (HB2.out.trans hb3)
    have HO3 := Lib.hid ho3
    clear ho3 hb3
    go_wp2_with fail
    refine (HR1.out _ _ (Tz.ofOwn HO3.out)).mono ?_
    rintro e w4 ⟨so, sc, no, nc, rfl, r1, r2, hb4⟩
    obtain ⟨w5, hw5⟩ : ∃ w5, w4.alloc (.cells ((oneA false t l).cells (.slice so (oneA false t l).scr.length sc) (.slice no (oneA false t l).nam.length nc)) 27) = w5 := ⟨_, rfl⟩
    have hbx := Bx.of hw5 r1 r2
    have HB5 := Lib.hid (bl_to HB3.out (bl_to hb4 hbx.2))
    have HBX := Lib.hid hbx.1
    have HB6 := Lib.hid (bl_to HB5.out (bl_alloc w5 (.cells #[.string ⟨#[45, 45]⟩, .string t] 9)))
    have hb56 := bl_alloc w5 (.cells #[.string ⟨#[45, 45]⟩, .string t] 9)
    have HB56 := Lib.hid hb56
    have HO6 := Lib.hid (out_block (base := w5.heap.size) (n := 2) (l := [⟨#[45, 45]⟩, t]) rfl (Nat.le_refl _) (by omega) (heap_alloc_new w5 (.cells #[.string ⟨#[45, 45]⟩, .string t] 9)))
    have hbs5 := HB5.out.size
    clear r1 r2 hb4 hbx hb56
    go_wp2_with (at_builtin; go_must (refine wpList_append_texts rfl (.tmp 28) (.tmp 29) rfl w5.heap.size _ [⟨#[45, 45]⟩, t] rfl HO6.out _ l rfl (HL.out.tz.to HB6.out) (by simp) (by omega) (by simp) ?_))
    intro v7 w7 ho7 hb7
    obtain ⟨va7, vc7, rfl⟩ := row_slice ho7
    have HB7 := Lib.hid (HB6.out.trans (hb7.mono hbs5))
    have HBX7 := Lib.hid (HBX.out.to (HB56.out.trans hb7))
    have HO7 := Lib.hid ho7
    clear ho7 hb7
    go_wp2_with fail
    refine (HR2.out _ _ (Tz.ofOwn HO7.out)).mono ?_
    rintro e w8 ⟨so8, sc8, no8, nc8, rfl, r1, r2, hb8⟩
    obtain ⟨w9, hw9⟩ : ∃ w9, w8.alloc (.cells ((oneA false t l).cells (.slice so8 (oneA false t l).scr.length sc8) (.slice no8 (oneA false t l).nam.length nc8)) 27) = w9 := ⟨_, rfl⟩
    have hbx := Bx.of hw9 r1 r2
    have HBX9 := Lib.hid (HBX7.out.to (bl_to hb8 hbx.2))
    have HB9 := Lib.hid (bl_to HB7.out (bl_to hb8 hbx.2))
    have HS := Lib.hid (rsame_any _ _ (oneA false t l) (oneA false t l) w9 HBX9.out.ax hbx.1.ax (by show 1 ≤ _; omega) (by show l.length ≤ _; omega) (by show 1 ≤ _; omega) (by show l.length ≤ _; omega))
    rw [avB_self] at HS
    obtain ⟨y0, y1, y2, y3, y4, y5, y6⟩ := cells7 HBX9.out.blk
    obtain ⟨z0, z1, z2, z3, z4, z5, z6⟩ := cells7 hbx.1.blk
    clear r1 r2 hb8 hbx
    go_wp2_with fail
    refine HS.out.mono ?_
    rintro e w10 ⟨rfl, hb10⟩
    have HB10 := Lib.hid (bl_to HB9.out hb10)
    have HBX10 := Lib.hid (HBX9.out.to hb10)
    clear y0 y1 y2 y3 y4 y5 y6 z0 z1 z2 z3 z4 z5 z6 hb10
    obtain ⟨-, -, -, -, -, -, y6⟩ := cells7 HBX10.out.blk
    replace y6 : w10.cell? ⟨w4.heap.size, 6, none⟩ = some (.slice no l.length nc) := y6
    have HT := Lib.hid (Texts_yes _ _ l w10 (Tx.ofOwn HBX10.out.r2) (HL.out.to HB10.out).tz.tx (by omega))
    go_wp2_with fail
    refine HT.out.mono ?_
    rintro e w11 ⟨rfl, hb11⟩
    have HB11 := Lib.hid (bl_to HB10.out hb11)
    have HBX11 := Lib.hid (HBX10.out.to hb11)
    obtain ⟨_, _, e1, hc1⟩ := Sx.ofOwn HBX11.out.r1
    simp only [Value.slice.injEq] at e1
    obtain ⟨rfl, hkill, rfl⟩ := e1
    clear hkill hb11 y6
    obtain ⟨b, off, rfl, hbl, hc⟩ := hc1 (by show 0 < 1; omega)
    have d0 : w11.cell? ⟨b, off, none⟩ = some (.bool false) := (hc 0 (by show 0 < 1; omega)).1
    have d1 : w11.cell? ⟨b, off + 1, none⟩ = some (.string t) := (hc 0 (by show 0 < 1; omega)).2
    clear hc hc1
    obtain ⟨y0, y1, y2, y3, y4, y5, -⟩ := cells7 HBX11.out.blk
    replace y0 : w11.cell? ⟨w4.heap.size, 0, none⟩ = some (.bool false) := y0
    replace y1 : w11.cell? ⟨w4.heap.size, 1, none⟩ = some (.bool false) := y1
    replace y2 : w11.cell? ⟨w4.heap.size, 2, none⟩ = some (.bool false) := y2
    replace y3 : w11.cell? ⟨w4.heap.size, 3, none⟩ = some (.bool false) := y3
    replace y4 : w11.cell? ⟨w4.heap.size, 4, none⟩ = some (.string ⟨#[]⟩) := y4
    replace y5 : w11.cell? ⟨w4.heap.size, 5, none⟩ = some (.slice (some ⟨b, off, none⟩) 1 sc) := y5
    go_wp2_with fail
    go_ret
    exact ⟨rfl, HB11.out⟩
end Go.Proofs.Ytbigolappdlhcaa
