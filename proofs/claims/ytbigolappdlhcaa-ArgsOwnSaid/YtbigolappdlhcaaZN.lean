/- The walk of ArgsOwn. -/
import Derived.Test.YtbigolappdlhcaaZM
namespace Go.Proofs.Ytbigolappdlhcaa
set_option linter.unusedSimpArgs false
set_option linter.unusedVariables false
open Go.RowKit

set_option maxRecDepth 100000 in
set_option maxHeartbeats 12800000 in
theorem own_any (v : Value) (l : List ByteArray) (w : World) (hl : Ls w v l) (hR : l.length * 16 ≤ 140737488351232) : Calls Try.prog 9 #[v] w fun e w' => e = .returned (.bool true) ∧ Below w.heap.size w w' := by
  obtain ⟨G, hG⟩ : ∃ G : List ByteArray, [⟨#[45, 101]⟩, ⟨#[120]⟩] ++ l = G := ⟨_, rfl⟩
  have hGl : G.length = l.length + 2 := by rw [← hG]; simp
  have hGs : ∀ s ∈ G, s.size ≤ 140737488351232 := by
    intro s hs
    rw [← hG] at hs
    rcases List.mem_append.1 hs with hs | hs
    · simp at hs; rcases hs with rfl | rfl
      · show 2 ≤ _; omega
      · show 1 ≤ _; omega
    · exact hl.sz s hs
  obtain ⟨⟨o, c, k⟩, hrd⟩ : ∃ x, readL G = x := ⟨_, rfl⟩
  obtain ⟨a, ha⟩ : ∃ a, o.getD zeroAv = a := ⟨_, rfl⟩
  have hlen := getD_len hrd ha
  obtain ⟨⟨pl, pc⟩, hP⟩ : ∃ y, printP a = y := ⟨_, rfl⟩
  have hpl : pl.length ≤ 65536 := by have := printP_le a; rw [hP] at this; exact this
  have HRD := Lib.hid (fun W u (hu : Tz W u G) => read_isM hrd ha hu (fun s hs => by have := hGs s hs; omega))
  have HCP := Lib.hid (fun W u (hu : Tz W u G) => copied_any u G W ⟨hu, hGs, by omega⟩)
  have HL := Lib.hid hl
  have HG := Lib.hid hG
  have HGL := Lib.hid hGl
  have HPP := Lib.hid hP
  have hGb : G.length ≤ 4611686018427387904 := by omega
  obtain ⟨la, lcap, rfl, _⟩ := id hl.tz.tx
  clear hrd ha hGs hl hG hGl hP
  go_enter Try.func9, Try.ntmps9
  go_wp2_with fail
  refine (begins_any _).mono ?_
  rintro e w1 ⟨rfl, hb1⟩
  have HB1 := Lib.hid hb1
  have HB2 := Lib.hid (bl_to hb1 (bl_alloc w1 (.cells #[.string ⟨#[45, 101]⟩, .string ⟨#[120]⟩] 9)))
  have HO := Lib.hid (out_block (base := w.heap.size) (n := 2) (l := [⟨#[45, 101]⟩, ⟨#[120]⟩]) rfl hb1.size (by omega) (heap_alloc_new w1 (.cells #[.string ⟨#[45, 101]⟩, .string ⟨#[120]⟩] 9)))
  have hbs := hb1.size
  clear hb1
  go_wp2_with (at_builtin; go_must (refine wpList_append_textsG rfl (.tmp 19) (.tmp 20) rfl w.heap.size _ [⟨#[45, 101]⟩, ⟨#[120]⟩] rfl HO.out _ l rfl (HL.out.tz.to HB2.out) (by simp; omega) (by simp; omega) ?_))
  intro v3 w3 ho3 hb3
  replace ho3 : Out w3 w.heap.size v3 G := by rw [← HG.out]; exact ho3
  obtain ⟨ga, gc, rfl⟩ := row_slice ho3
  have HB3 := Lib.hid (HB2.out.trans hb3)
  have HO3 := Lib.hid ho3
  clear ho3 hb3
  go_wp2_with fail
  refine (HCP.out _ _ (Tz.ofOwn HO3.out)).mono ?_
  rintro e w4 ⟨wv, rfl, ho4, hb4⟩
  obtain ⟨wa, wc, rfl⟩ := row_slice ho4
  have HB4 := Lib.hid (bl_to HB3.out hb4)
  have HO4 := Lib.hid ho4
  have HG4 := Lib.hid (HO3.out.to hb4)
  have HGO : Hid (∀ g, (Value.slice ga G.length gc).ownBlock = some g → g < w4.heap.size) := fun g hg => (World.ownsRow.lt HG4.out g hg).2
  have HWO : Hid (∀ g, (Value.slice wa G.length wc).ownBlock = some g → g < w4.heap.size) := fun g hg => (World.ownsRow.lt HO4.out g hg).2
  clear ho4 hb4 HO HO3
  go_wp2_with fail
  refine (HRD.out _ _ (Tz.ofOwn HG4.out)).mono ?_
  rintro e w5 ⟨so, sc, no, nc, rfl, r1, r2, hb5⟩
  obtain ⟨w6, hw6⟩ : ∃ w6, w5.alloc (.cells (a.cells (.slice so a.scr.length sc) (.slice no a.nam.length nc)) 27) = w6 := ⟨_, rfl⟩
  have hbx := Bx.of hw6 r1 r2
  have hb46 := bl_to hb5 hbx.2
  have HB6 := Lib.hid (bl_to HB4.out hb46)
  have HA6 := Lib.hid hbx.1
  have HL1 : Hid (∀ g, (Value.slice so a.scr.length sc).ownBlock = some g → g < w5.heap.size) := fun g hg => (World.ownsRow.lt r1 g hg).2
  have HL2 : Hid (∀ g, (Value.slice no a.nam.length nc).ownBlock = some g → g < w5.heap.size) := fun g hg => (World.ownsRow.lt r2 g hg).2
  have s45 : w4.heap.size ≤ w5.heap.size := hb5.size
  have s56 : w5.heap.size < w6.heap.size := lt_of_block hbx.1.blk
  have HW6 := Lib.hid (HO4.out.to hb46)
  have HG6 := Lib.hid (HG4.out.to hb46)
  clear r1 r2 hb5 hbx hb46
  go_wp2_with fail
  refine (HRD.out _ _ (Tz.ofOwn HG6.out)).mono ?_
  rintro e w7 ⟨sb, sbc, nb, nbc, rfl, r1, r2, hb7⟩
  obtain ⟨w8, hw8⟩ : ∃ w8, w7.alloc (.cells (a.cells (.slice sb a.scr.length sbc) (.slice nb a.nam.length nbc)) 27) = w8 := ⟨_, rfl⟩
  have hbx := Bx.of hw8 r1 r2
  have hb68 := bl_to hb7 hbx.2
  have HB8 := Lib.hid (bl_to HB6.out hb68)
  have HA8 := Lib.hid (HA6.out.to hb68)
  have HX8 := Lib.hid hbx.1
  have s67 : w6.heap.size ≤ w7.heap.size := hb7.size
  have s78 : w7.heap.size < w8.heap.size := lt_of_block hbx.1.blk
  have HW8 := Lib.hid (HW6.out.to hb68)
  have HG8 := Lib.hid (HG6.out.to hb68)
  obtain ⟨x0, x1, x2, x3, x4, x5, x6⟩ := cells7 hbx.1.blk
  have HCC := Lib.hid (copy_any _ a w8 hbx.1.ax (by omega) (by omega))
  clear r1 r2 hb7 hbx hb68 HCP HRD
  go_wp2_with fail
  refine HCC.out.mono ?_
  rintro e w9 ⟨kv, kn, rfl, r1, r2, hb9⟩
  obtain ⟨sk, skc, rfl⟩ := row_slice r1
  obtain ⟨nk, nkc, rfl⟩ := row_slice r2
  obtain ⟨w10, hw10⟩ : ∃ w10, w9.alloc (.cells (a.cells (.slice sk a.scr.length skc) (.slice nk a.nam.length nkc)) 27) = w10 := ⟨_, rfl⟩
  have hbx := Bx.of hw10 r1 r2
  have hb810 := bl_to hb9 hbx.2
  have HB10 := Lib.hid (bl_to HB8.out hb810)
  have HA10 := Lib.hid (HA8.out.to hb810)
  have HX10 := Lib.hid (HX8.out.to hb810)
  have HY10 := Lib.hid hbx.1
  have s89 : w8.heap.size ≤ w9.heap.size := hb9.size
  have s910 : w9.heap.size < w10.heap.size := lt_of_block hbx.1.blk
  have HW10 := Lib.hid (HW8.out.to hb810)
  have HG10 := Lib.hid (HG8.out.to hb810)
  have HPR := Lib.hid (HX10.out.print (by omega) (by omega))
  unfold PrintPost at HPR
  rw [HPP.out] at HPR
  clear r1 r2 hb9 hbx hb810 x0 x1 x2 x3 x4 x5 x6 HCC
  obtain ⟨x0, x1, x2, x3, x4, x5, x6⟩ := cells7 HX10.out.blk
  go_wp2_with fail
  refine HPR.out.mono ?_
  rintro e w11 ⟨cv, rfl, ho11, hb11⟩
  obtain ⟨co, cc, rfl⟩ := row_slice ho11
  have HI : Hid (IV w10 w4.heap.size w5.heap.size a so sc no nc co pl.length cc w11) :=
    ⟨Fr.ofBelow _ hb11, (hb11.block _ (lt_of_block HA10.out.blk)).trans HA10.out.blk, ⟨_, row_to hb11 HA10.out.r1⟩, ⟨_, row_to hb11 HA10.out.r2⟩, ⟨_, ho11⟩, HL1.out, HL2.out, s45, by omega⟩
  clear ho11 hb11 x0 x1 x2 x3 x4 x5 x6 HPR HA6 HA8 HA10 HX8 HW6 HW8 HG4 HG6 HG8 HO4
  go_wp2_with fail
  go_loopw [14] (fun s14 wr => ∃ i : Nat, i ≤ a.scr.length ∧ s14 = .int .i64 i ∧ IV w10 w4.heap.size w5.heap.size a so sc no nc co pl.length cc wr) (fun s14 _ => a.scr.length - (intOf s14).toNat)
  case atStart => exact ⟨0, Nat.zero_le _, rfl, HI.out⟩
  case round =>
    clear HI
    obtain ⟨i, hi, rfl, hiv⟩ := hrel
    have HI := Lib.hid hiv
    obtain ⟨x5, -⟩ := blk_at hiv.box 5 (v := .slice so a.scr.length sc) rfl
    by_cases hlt : i < a.scr.length
    · obtain ⟨xs, hr⟩ := hiv.r1
      obtain ⟨g, cap', e1, -, -⟩ := hr.form (by omega)
      simp only [Value.slice.injEq, true_and] at e1
      obtain ⟨rfl, rfl⟩ := e1
      obtain ⟨u, hu⟩ : ∃ u, xs[i * 2 + 1]? = some u := ⟨xs[i * 2 + 1]'(by rw [hr.1]; omega), List.getElem?_eq_getElem _⟩
      have d0 := (hr.cellAt (i * 2 + 1) (by omega)).trans hu
      have d1 := hr.frozenAt (i * 2 + 1)
      have HN := Lib.hid (HI.out.store1 (g := g) rfl (i * 2 + 1) (by omega) (.string ⟨#[63]⟩))
      have hk1 : (i : Int) < (a.scr.length : Int) := by omega
      clear hr hu hiv
      go_wp2_with fail
      go_roundw
      case rel => exact ⟨i + 1, by omega, by go_num, HN.out⟩
      case measure => simp [intOf]; omega
    · obtain rfl : i = a.scr.length := by omega
      have hx1 : ¬ (a.scr.length : Int) < (a.scr.length : Int) := by omega
      clear hiv
      go_wp2_with fail
      obtain ⟨wz, hwz⟩ : ∃ wz : World, wz = wr := ⟨_, rfl⟩
      rw [← hwz] at HI ⊢
      clear hwz x5 hx1 hlt hi
      go_loopw [15] (fun s15 wr => ∃ i : Nat, i ≤ a.nam.length ∧ s15 = .int .i64 i ∧ IV w10 w4.heap.size w5.heap.size a so sc no nc co pl.length cc wr) (fun s15 _ => a.nam.length - (intOf s15).toNat)
      case atStart => exact ⟨0, Nat.zero_le _, rfl, HI.out⟩
      case round =>
        clear HI
        obtain ⟨i, hi, rfl, hiv⟩ := hrel
        have HI := Lib.hid hiv
        obtain ⟨x6, -⟩ := blk_at hiv.box 6 (v := .slice no a.nam.length nc) rfl
        by_cases hlt : i < a.nam.length
        · obtain ⟨xs, hr⟩ := hiv.r2
          obtain ⟨g, cap', e1, -, -⟩ := hr.form (by omega)
          simp only [Value.slice.injEq, true_and] at e1
          obtain ⟨rfl, rfl⟩ := e1
          obtain ⟨u, hu⟩ : ∃ u, xs[i]? = some u := ⟨xs[i]'(by rw [hr.1]; omega), List.getElem?_eq_getElem _⟩
          have d0 := (hr.cellAt i (by omega)).trans hu
          have d1 := hr.frozenAt i
          have HN := Lib.hid (HI.out.store2 (g := g) rfl i (by omega) (.string ⟨#[63]⟩))
          have hk1 : (i : Int) < (a.nam.length : Int) := by omega
          clear hr hu hiv
          go_wp2_with fail
          go_roundw
          case rel => exact ⟨i + 1, by omega, by go_num, HN.out⟩
          case measure => simp [intOf]; omega
        · obtain rfl : i = a.nam.length := by omega
          have hx1 : ¬ (a.nam.length : Int) < (a.nam.length : Int) := by omega
          clear hiv
          go_wp2_with fail
          obtain ⟨wy, hwy⟩ : ∃ wy : World, wy = wr := ⟨_, rfl⟩
          rw [← hwy] at HI ⊢
          clear hwy x6 hx1 hlt hi
          go_loopw [16] (fun s16 wr => ∃ i : Nat, i ≤ pl.length ∧ s16 = .int .i64 i ∧ IV w10 w4.heap.size w5.heap.size a so sc no nc co pl.length cc wr) (fun s16 _ => pl.length - (intOf s16).toNat)
          case atStart => exact ⟨0, Nat.zero_le _, rfl, HI.out⟩
          case round =>
            clear HI
            obtain ⟨i, hi, rfl, hiv⟩ := hrel
            have HI := Lib.hid hiv
            by_cases hlt : i < pl.length
            · obtain ⟨xs, hr⟩ := hiv.r3
              obtain ⟨g, cap', e1, -, -⟩ := hr.form (by omega)
              simp only [Value.slice.injEq, true_and] at e1
              obtain ⟨rfl, rfl⟩ := e1
              obtain ⟨u, hu⟩ : ∃ u, xs[i]? = some u := ⟨xs[i]'(by rw [hr.1]; omega), List.getElem?_eq_getElem _⟩
              have d0 := (hr.cellAt i (by omega)).trans hu
              have d1 := hr.frozenAt i
              have HN := Lib.hid (HI.out.store3 (g := g) rfl i (by omega) (.string ⟨#[33]⟩))
              have hk1 : (i : Int) < (pl.length : Int) := by omega
              clear hr hu hiv
              go_wp2_with fail
              go_roundw
              case rel => exact ⟨i + 1, by omega, by go_num, HN.out⟩
              case measure => simp [intOf]; omega
            · obtain rfl : i = pl.length := by omega
              have hx1 : ¬ (pl.length : Int) < (pl.length : Int) := by omega
              obtain ⟨ys, hr1⟩ := hiv.r1
              obtain ⟨xs, hr2⟩ := hiv.r2
              obtain ⟨x6, -⟩ := blk_at hiv.box 6 (v := .slice no a.nam.length nc) rfl
              obtain ⟨i9, hi9, hz90, hz91, hz92⟩ := info_parts info9
              obtain ⟨i0, hi0, hz0, hz1, hz2⟩ := info_parts info45
              have HR1 := Lib.hid hr1
              have HR2 := Lib.hid hr2
              have e5 : ∀ o, (wr.alloc o).cell? ⟨w5.heap.size, 6, none⟩ = some (.slice no a.nam.length nc) := fun o => bl_cell (bl_alloc wr o) x6
              have hA1 : w4.heap.size ≤ wr.heap.size := by have := hiv.fr.size; omega
              have h63 : a.nam.length + 1 ≤ maxLen := by unfold maxLen; omega
              have hby : (a.nam.length + 1) * 16 ≤ 140737488355328 := by omega
              clear hr1 hr2 hiv hlt hi
              go_wp2_with (at_builtin; go_must (refine wpList_append_lies _ rfl (.tmp 79) (.tmp 80) 25 rfl w4.heap.size 9 i9 (.string ⟨#[]⟩) 1 16 Try.underlying25 hi9 hz90 hz91 hz92 rfl (by decide) (.slice no a.nam.length nc) a.nam.length xs rfl (row_to (bl_alloc wr _) HR2.out) ⟨wr.heap.size, 0, none⟩ 1 1 [.string ⟨#[109, 111, 114, 101]⟩] rfl rfl (cells_one wr _ _) (by intro u hu; simp at hu; rcases hu with rfl; rfl) (by omega) h63 hby (by simp; omega) (wr.heap.size + 1) (by simp) ?_))
              intro g2 cap2 wa2 hown hgrow hat hlt2
              have hf2 : Fr (fun i => (Value.slice no a.nam.length nc).ownBlock = some i) wr wa2 := ((Fr.refl _ wr).alloc _).trans (Fr.ofGrown hgrow) (fun i _ hi => hi)
              have hbox2 := (hf2.block w5.heap.size (lt_of_block HI.out.box) (fun e => by have := HI.out.l2 _ e; omega)).trans HI.out.box
              have hq1 := row_fr hf2 HR1.out (fun g hg e => HI.out.ne12 hg e)
              have hF2 : Fr (fun i => (w4.heap.size ≤ i ∧ i ≤ w5.heap.size) ∨ w10.heap.size ≤ i) w10 wa2 := HI.out.fr.trans hf2 (fun i _ hi => by have := HI.out.lt2 hi; exact .inl ⟨this.1, by omega⟩)
              obtain ⟨y6, fy6⟩ := blk_at hbox2 6 (v := .slice no a.nam.length nc) rfl
              have HBX2 := Lib.hid hbox2
              have HQ1 := Lib.hid hq1
              have HF2 := Lib.hid hF2
              clear hown hgrow hat hlt2 hf2 hbox2 hq1 hF2 x6 e5 h63 hby hA1
              obtain ⟨wb, hwb⟩ : ∃ W, wa2.setCell ⟨w5.heap.size, 6, none⟩ (.slice (some ⟨g2, 0, none⟩) (a.nam.length + 1) cap2) = W := ⟨_, rfl⟩
              have hfb : Fr (fun i => i = w5.heap.size) wa2 wb := by rw [← hwb]; exact (Fr.refl (fun i => i = w5.heap.size) wa2).setCell (p := ⟨w5.heap.size, 6, none⟩) rfl _
              have hboxb : wb.heap[w5.heap.size]? = some (.cells (a.cells (.slice so a.scr.length sc) (.slice (some ⟨g2, 0, none⟩) (a.nam.length + 1) cap2)) 27 (0, 0)) := by rw [← hwb, heap_setCell_same _ _ _ _ _ _ _ HBX2.out]; rfl
              have hqb := row_fr hfb HQ1.out (fun g hg e => by have := HI.out.l1 g hg; have e' : g = w5.heap.size := e; omega)
              have hFb : Fr (fun i => (w4.heap.size ≤ i ∧ i ≤ w5.heap.size) ∨ w10.heap.size ≤ i) w10 wb := HF2.out.trans hfb (fun i _ hi => by have e' : i = w5.heap.size := hi; exact .inl ⟨by omega, by omega⟩)
              obtain ⟨x5, -⟩ := blk_at hboxb 5 (v := .slice so a.scr.length sc) rfl
              have e5 : ∀ o, (wb.alloc o).cell? ⟨w5.heap.size, 5, none⟩ = some (.slice so a.scr.length sc) := fun o => bl_cell (bl_alloc wb o) x5
              have hA1 : w4.heap.size ≤ wb.heap.size := by have := hFb.size; omega
              have h63 : a.scr.length + 1 ≤ maxLen := by unfold maxLen; omega
              have hby : (a.scr.length + 1) * 24 ≤ 140737488355328 := by omega
              have HBXB := Lib.hid hboxb
              have HQB := Lib.hid hqb
              have HFB := Lib.hid hFb
              clear hfb hboxb hqb hFb
              go_wp2_with (at_builtin; go_must (refine wpList_append_lies _ rfl (.tmp 84) (.tmp 86) 24 rfl w4.heap.size 45 i0 (.agg #[(.bool false), (.string ⟨#[]⟩)]) 2 24 Try.underlying24 hi0 hz0 hz1 hz2 rfl (by decide) (.slice so a.scr.length sc) a.scr.length ys rfl (row_to (bl_alloc wb _) HQB.out) ⟨wb.heap.size, 0, none⟩ 1 1 [.bool false, .string ⟨#[]⟩] rfl rfl (cells_two wb _ _ _) (by intro u hu; simp at hu; rcases hu with rfl | rfl <;> rfl) (by omega) h63 hby (by simp; omega) (wb.heap.size + 1) (by simp) ?_))
              intro g4 cap4 wc2 hown hgrow hat hlt2
              have hf4 : Fr (fun i => (Value.slice so a.scr.length sc).ownBlock = some i) wb wc2 := ((Fr.refl _ wb).alloc _).trans (Fr.ofGrown hgrow) (fun i _ hi => hi)
              have hbox4 := (hf4.block w5.heap.size (lt_of_block HBXB.out) (fun e => by have := HI.out.l1 _ e; omega)).trans HBXB.out
              have hF4 : Fr (fun i => (w4.heap.size ≤ i ∧ i ≤ w5.heap.size) ∨ w10.heap.size ≤ i) w10 wc2 := HFB.out.trans hf4 (fun i _ hi => by have := HI.out.lt1 hi; exact .inl ⟨this.1, by omega⟩)
              obtain ⟨z5, fz5⟩ := blk_at hbox4 5 (v := .slice so a.scr.length sc) rfl
              obtain ⟨wd, hwd⟩ : ∃ W, wc2.setCell ⟨w5.heap.size, 5, none⟩ (.slice (some ⟨g4, 0, none⟩) (a.scr.length + 1) cap4) = W := ⟨_, rfl⟩
              have hfd : Fr (fun i => i = w5.heap.size) wc2 wd := by rw [← hwd]; exact (Fr.refl (fun i => i = w5.heap.size) wc2).setCell (p := ⟨w5.heap.size, 5, none⟩) rfl _
              have hFd : Fr (fun i => (w4.heap.size ≤ i ∧ i ≤ w5.heap.size) ∨ w10.heap.size ≤ i) w10 wd := hF4.trans hfd (fun i _ hi => by have e' : i = w5.heap.size := hi; exact .inl ⟨by omega, by omega⟩)
              have hFE : Fr (fun i => w4.heap.size ≤ i ∧ i ≤ w5.heap.size) w10 wd := hFd.mono (fun i hi hs => by rcases hs with hs | hs; exact hs; omega)
              have hBX := HX10.out.frm hFE (fun i hi => by omega) s67
              have hBY := HY10.out.frm hFE (fun i hi => by omega) s89
              have hTG := row_fr hFE HG10.out (fun g hg e => by have := HGO.out g hg; omega)
              have hTW := row_fr hFE HW10.out (fun g hg e => by have := HWO.out g hg; omega)
              have HBD : Hid (Below w.heap.size w wd) := HB10.out.trans (hFE.toBelow (by have := HB10.out.size; omega) (fun i _ hi => by have := HB4.out.size; omega))
              obtain ⟨x0, x1, x2, x3, x4, x5', x6⟩ := cells7 hBX.blk
              obtain ⟨y0, y1, y2, y3, y4, y5, y6'⟩ := cells7 hBY.blk
              have HS := Lib.hid (rsame_any _ _ a a wd hBX.ax hBY.ax (by omega) (by omega) (by omega) (by omega))
              rw [avB_self] at HS
              have HTX := Lib.hid (fun W (hb : Below wd.heap.size wd W) => Texts_yes _ _ G W ((Tx.ofOwn hTG).to hb) ((Tx.ofOwn hTW).to hb) hGb)
              clear hown hgrow hat hlt2 hf4 hbox4 hF4 hfd hFd hFE hBX hBY hTG hTW x5 e5 y6 fy6
              go_wp2_with fail
              refine HS.out.mono ?_
              rintro e we ⟨rfl, hbe⟩
              have HBE := Lib.hid hbe
              clear hbe
              go_wp2_with fail
              refine (HTX.out _ HBE.out).mono ?_
              rintro e wf ⟨rfl, hbf⟩
              have HBF := Lib.hid (bl_to (bl_to HBD.out HBE.out) hbf)
              clear hbf
              go_wp2_with fail
              go_ret
              exact ⟨rfl, HBF.out⟩
end Go.Proofs.Ytbigolappdlhcaa
