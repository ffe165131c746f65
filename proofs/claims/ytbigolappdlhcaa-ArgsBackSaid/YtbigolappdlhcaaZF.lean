/- The walk of ArgsBack. -/
import Derived.Test.YtbigolappdlhcaaZE
import Derived.Deep.DeepCutAuto
import Derived.Deep.CutBlock
namespace Go.Proofs.Ytbigolappdlhcaa
set_option linter.unusedSimpArgs false
set_option linter.unusedVariables false
open Go.RowKit

theorem printP_zero {a : Av} {m : List ByteArray} (h : printP a = (m, 0)) : rightB a = true ∧ m = printL a ∧ readL m = (some a, 0, 0) := by
  unfold printP at h
  split at h
  · simp at h
  · rename_i hr
    have hr' : rightB a = true := by simpa using hr
    split at h
    · simp at h
    · rename_i hl
      simp only [Prod.mk.injEq, and_true] at h
      subst h
      exact ⟨hr', rfl, read_print a hr' (by omega)⟩
theorem printP_right {a : Av} (h : rightB a = true) : (∃ m, printP a = (m, 3)) ∨ (∃ m, printP a = (m, 0)) := by
  unfold printP
  rw [if_neg (by rw [h]; simp)]
  split
  · exact .inl ⟨_, rfl⟩
  · exact .inr ⟨_, rfl⟩
theorem printP_sizes {a : Av} {m : List ByteArray} (hz : Big a) (h : printP a = (m, 0)) : ∀ s ∈ m, s.size ≤ 9223372036854775807 := by
  obtain ⟨h1, rfl, _⟩ := printP_zero h
  exact printL_sizes hz.1 hz.2 (right_suf h1) (by omega)
theorem zero_ax (w : World) : Ax w (.agg #[.bool false, .bool false, .bool false, .bool false, .string ⟨#[]⟩, .slice none 0 0, .slice none 0 0]) zeroAv :=
  ⟨.slice none 0 0, .slice none 0 0, rfl, ⟨none, 0, rfl, fun h => by simp [zeroAv] at h⟩, ⟨none, 0, rfl, fun h => by simp [zeroAv] at h⟩⟩

set_option maxRecDepth 8000 in
set_option maxHeartbeats 6400000 in
theorem back_any (u v : Value) (x : Av) (l : List ByteArray) (w : World) (hx : Arg w u x) (hz : Big x) (hl : Ls w v l) : Calls Try.prog 5 #[u, v] w fun e w' => e = .returned (.bool true) ∧ Below w.heap.size w w' := by
  obtain ⟨⟨sv, nv, rfl, hs, hn, hnz⟩, l1, l2⟩ := hx
  obtain ⟨ao, cap, rfl, _⟩ := id hs
  obtain ⟨ao', cap', rfl, _⟩ := id hn
  obtain ⟨⟨m, c1⟩, hP⟩ : ∃ y, printP x = y := ⟨_, rfl⟩
  have HAX := Lib.hid (fun W (hb : Below w.heap.size w W) => (⟨_, _, rfl, hs.to hb, hn.to hb⟩ : Ax W (x.val (.slice ao x.scr.length cap) (.slice ao' x.nam.length cap')) x))
  have HPR := Lib.hid (fun W (hb : Below w.heap.size w W) => print_any _ x W _ _ rfl (hs.to hb) (hn.to hb) hnz (by omega) (by omega))
  unfold PrintPost at HPR
  rw [hP] at HPR
  have HP := Lib.hid hP
  have HZ := Lib.hid hz
  have HL := Lib.hid hl
  have HB0 := Lib.hid (bl_alloc w (.cells (x.cells (.slice ao x.scr.length cap) (.slice ao' x.nam.length cap')) 27))
  have HX0 := Lib.hid (heap_alloc_new w (.cells (x.cells (.slice ao x.scr.length cap) (.slice ao' x.nam.length cap')) 27))
  obtain ⟨la, lcap, rfl, _⟩ := id hl.tz.tx
  have hle := (hl.tz.le _ _ _ rfl).1
  have hln := hl.ln
  clear hs hn hnz hP hz hl
  go_enter Try.func5, Try.ntmps5
  go_wp2_with fail
  refine (begins_any _).mono ?_
  rintro e w1 ⟨rfl, hb1⟩
  have hx1 := (hb1.block _ (lt_of_block HX0.out)).trans HX0.out
  have HB1 := Lib.hid (bl_to HB0.out hb1)
  have HX1 := Lib.hid hx1
  obtain ⟨x0, x1, x2, x3, x4, x5, x6⟩ := cells7 hx1
  clear hb1 hx1
  go_wp2_with fail
  refine (HPR.out _ HB1.out).mono ?_
  rintro e w2 ⟨mv, rfl, ho2, hb2⟩
  obtain ⟨ma, mc, rfl⟩ := row_slice ho2
  have hx2 := (hb2.block _ (lt_of_block HX1.out)).trans HX1.out
  have HB2 := Lib.hid (bl_to HB1.out hb2)
  have HX2 := Lib.hid hx2
  have HO2 := Lib.hid ho2
  clear x0 x1 x2 x3 x4 x5 x6 hb2 ho2
  go_upto_if 22 with (fail)
  go_cut [7] (fun s7 wx => Below w2.heap.size w2 wx)
  case first =>
    by_cases hc : c1 = 0
    · subst hc
      obtain ⟨hr, hm, hrd⟩ := printP_zero HP.out
      have HC := Lib.hid (read_isM (a := x) hrd rfl (Tz.ofOwn HO2.out) (printP_sizes HZ.out HP.out))
      have HR := Lib.hid (fun W (hb : Below w.heap.size w W) => right_any _ x W (HAX.out W hb))
      rw [hr] at HR
      clear hr hm hrd
      go_wp2_with fail
      refine HC.out.mono ?_
      rintro e w3 ⟨so, sc, no, nc, rfl, r1, r2, hb3⟩
      obtain ⟨w4, hw4⟩ : ∃ w4, w3.alloc (.cells (x.cells (.slice so x.scr.length sc) (.slice no x.nam.length nc)) 27) = w4 := ⟨_, rfl⟩
      have hbx := Bx.of hw4 r1 r2
      have hb4 := bl_to hb3 hbx.2
      have hx4 := (hb4.block _ (lt_of_block HX2.out)).trans HX2.out
      have HB4 := Lib.hid hb4
      have HBX := Lib.hid hbx.1
      obtain ⟨x0, x1, x2, x3, x4, x5, x6⟩ := cells7 hx4
      obtain ⟨y0, y1, y2, y3, y4, y5, y6⟩ := cells7 hbx.1.blk
      have HS := Lib.hid (rsame_any _ _ x x w4 (HAX.out w4 (bl_to HB2.out hb4)) hbx.1.ax (by omega) (by omega) (by omega) (by omega))
      rw [avB_self] at HS
      clear r1 r2 hb3 hbx hb4 HC
      go_wp2_with fail
      refine HS.out.mono ?_
      rintro e w5 ⟨rfl, hb5⟩
      have hx5 := (hb5.block _ (lt_of_block hx4)).trans hx4
      have HB5 := Lib.hid (bl_to HB4.out hb5)
      clear x0 x1 x2 x3 x4 x5 x6 y0 y1 y2 y3 y4 y5 y6 hx4
      obtain ⟨x0, x1, x2, x3, x4, x5, x6⟩ := cells7 hx5
      clear hx5 hb5
      go_wp2_with fail
      refine (HR.out _ (bl_to HB2.out HB5.out)).mono ?_
      rintro e w6 ⟨rfl, hb6⟩
      have HB6 := Lib.hid (bl_to HB5.out hb6)
      clear hb6
      go_wp2_with fail
      go_meet
      case rel => exact HB6.out
    · have h0 : (c1 == 0) = false := by simpa using hc
      go_wp2_with fail
      go_meet
      case rel => exact Below.refl _ _
  case rest =>
    have HBC := Lib.hid (bl_to HB2.out hcut)
    clear hcut hx2 HO2 HX2 HB2 HPR
    obtain ⟨⟨o, c, k⟩, hR⟩ : ∃ y, readL l = y := ⟨_, rfl⟩
    have HSZ : Hid (∀ s ∈ l, s.size ≤ 9223372036854775807) := fun s hs => by have := HL.out.sz s hs; omega
    cases o with
    | none =>
      have hk := read_le hR
      have hc0 : c ≠ 0 := by
        rcases readL_or l with ⟨c', k', h1, h2⟩ | ⟨a, h1⟩
        · rw [hR] at h1; simp only [Prod.mk.injEq] at h1; rw [h1.2.1]; exact h2
        · rw [hR] at h1; simp at h1
      have hc1 : (c != 0) = true := by simpa using hc0
      have hk0 : (0 : Int) ≤ (k : Int) := by omega
      have hk1 : (k : Int) ≤ (l.length : Int) := by omega
      have HC := Lib.hid (read_isM (a := zeroAv) hR rfl (HL.out.tz.to HBC.out) HSZ.out)
      clear hR hc0
      go_wp2_with fail
      refine HC.out.mono ?_
      rintro e w3 ⟨so, sc, no, nc, rfl, r1, r2, hb3⟩
      obtain ⟨w4, hw4⟩ : ∃ w4, w3.alloc (.cells (zeroAv.cells (.slice so zeroAv.scr.length sc) (.slice no zeroAv.nam.length nc)) 27) = w4 := ⟨_, rfl⟩
      have hbx := Bx.of hw4 r1 r2
      have HB4 := Lib.hid (bl_to HBC.out (bl_to hb3 hbx.2))
      obtain ⟨y0, y1, y2, y3, y4, y5, y6⟩ := cells7 hbx.1.blk
      have HS := Lib.hid (rsame_any _ _ zeroAv zeroAv w4 hbx.1.ax (zero_ax w4) (by decide) (by decide) (by decide) (by decide))
      rw [avB_self] at HS
      clear r1 r2 hb3 hbx HC
      go_wp2_with fail
      refine HS.out.mono ?_
      rintro e w5 ⟨rfl, hb5⟩
      have HB5 := Lib.hid (bl_to HB4.out hb5)
      clear hb5
      go_wp2_with fail
      go_ret
      exact ⟨rfl, HB5.out⟩
    | some a =>
      have hck : c = 0 ∧ k = 0 := by
        rcases readL_or l with ⟨c', k', h1, h2⟩ | ⟨a, h1⟩
        · rw [hR] at h1; simp at h1
        · rw [hR] at h1; simp only [Prod.mk.injEq] at h1; exact h1.2
      obtain ⟨rfl, rfl⟩ := hck
      have hr := read_right hR
      have hlen := (read_len hR).2
      have HBG : Hid (Big a) := read_sizes HSZ.out hR
      have HC := Lib.hid (read_isM (a := a) hR rfl (HL.out.tz.to HBC.out) HSZ.out)
      have HRT := Lib.hid (fun W u (hb : Ax W u a) => right_any u a W hb)
      rw [hr] at HRT
      have HRR := Lib.hid hr
      clear hR hr
      go_wp2_with fail
      refine HC.out.mono ?_
      rintro e w3 ⟨so, sc, no, nc, rfl, r1, r2, hb3⟩
      obtain ⟨w4, hw4⟩ : ∃ w4, w3.alloc (.cells (a.cells (.slice so a.scr.length sc) (.slice no a.nam.length nc)) 27) = w4 := ⟨_, rfl⟩
      have hbx := Bx.of hw4 r1 r2
      have HB4 := Lib.hid (bl_to HBC.out (bl_to hb3 hbx.2))
      have HBX := Lib.hid hbx.1
      obtain ⟨y0, y1, y2, y3, y4, y5, y6⟩ := cells7 hbx.1.blk
      clear r1 r2 hb3 hbx HC
      go_wp2_with fail
      refine (HRT.out _ _ HBX.out.ax).mono ?_
      rintro e w5 ⟨rfl, hb5⟩
      have HBX5 := Lib.hid (HBX.out.to hb5)
      have HB5 := Lib.hid (bl_to HB4.out hb5)
      have HPR := Lib.hid (HBX5.out.print (by omega) (by omega))
      clear y0 y1 y2 y3 y4 y5 y6 hb5 HBX
      obtain ⟨y0, y1, y2, y3, y4, y5, y6⟩ := cells7 HBX5.out.blk
      unfold PrintPost at HPR
      rcases printP_right HRR.out with ⟨m2, hp⟩ | ⟨m2, hp⟩
      · rw [hp] at HPR
        clear hp
        go_wp2_with fail
        refine HPR.out.mono ?_
        rintro e w6 ⟨mv, rfl, ho6, hb6⟩
        have HB6 := Lib.hid (bl_to HB5.out hb6)
        clear hb6 ho6
        go_wp2_with fail
        go_ret
        exact ⟨rfl, HB6.out⟩
      · rw [hp] at HPR
        have hrd := (printP_zero hp).2.2
        have HM := Lib.hid (printP_sizes HBG.out hp)
        have HRD := Lib.hid (fun W u (hu : Tz W u m2) => read_isM (a := a) hrd rfl hu HM.out)
        clear hp hrd
        go_wp2_with fail
        refine HPR.out.mono ?_
        rintro e w6 ⟨mv, rfl, ho6, hb6⟩
        obtain ⟨na, ncp, rfl⟩ := row_slice ho6
        have HB6 := Lib.hid (bl_to HB5.out hb6)
        have HO6 := Lib.hid ho6
        have HBX6 := Lib.hid (HBX5.out.to hb6)
        clear hb6 ho6 y0 y1 y2 y3 y4 y5 y6
        go_wp2_with fail
        refine (HRD.out _ _ (Tz.ofOwn HO6.out)).mono ?_
        rintro e w7 ⟨so7, sc7, no7, nc7, rfl, r1, r2, hb7⟩
        obtain ⟨w8, hw8⟩ : ∃ w8, w7.alloc (.cells (a.cells (.slice so7 a.scr.length sc7) (.slice no7 a.nam.length nc7)) 27) = w8 := ⟨_, rfl⟩
        have hbx := Bx.of hw8 r1 r2
        have hb8 := bl_to hb7 hbx.2
        have HB8 := Lib.hid (bl_to HB6.out hb8)
        have HBX8 := Lib.hid (HBX6.out.to hb8)
        have HS := Lib.hid (rsame_any _ _ a a w8 HBX8.out.ax hbx.1.ax (by omega) (by omega) (by omega) (by omega))
        rw [avB_self] at HS
        obtain ⟨y0, y1, y2, y3, y4, y5, y6⟩ := cells7 HBX8.out.blk
        obtain ⟨z0, z1, z2, z3, z4, z5, z6⟩ := cells7 hbx.1.blk
        clear r1 r2 hb7 hb8 hbx
        go_wp2_with fail
        refine HS.out.mono ?_
        rintro e w9 ⟨rfl, hb9⟩
        have HB9 := Lib.hid (bl_to HB8.out hb9)
        clear hb9
        go_wp2_with fail
        go_ret
        exact ⟨rfl, HB9.out⟩
end Go.Proofs.Ytbigolappdlhcaa
