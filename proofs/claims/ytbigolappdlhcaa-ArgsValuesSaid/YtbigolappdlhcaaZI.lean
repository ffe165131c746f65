/- The walk of ArgsValues. Printed by genZI.py. -/
import Derived.Test.YtbigolappdlhcaaZG
namespace Go.Proofs.Ytbigolappdlhcaa
set_option linter.unusedSimpArgs false
set_option linter.unusedVariables false
open Go.RowKit

theorem endW_le (r : List ByteArray) (a : Av) : ∀ c k o, endW r (readW r 0 a) = (o, c, k) → k ≤ r.length := by
  intro c k o h
  cases hR : readW r 0 a with
  | inl j =>
    have := readW_le r r.length 0 a (by omega) j hR
    rw [hR] at h
    simp only [endW, Prod.mk.injEq] at h; omega
  | inr x =>
    obtain ⟨j, b⟩ := x
    rw [hR] at h
    rcases endW_or r (.inr (j, b)) with ⟨k', h'⟩ | ⟨a', h'⟩
    · have h2 : (if b.scr = [] then (match r.drop j with | [] => (none, 260, r.length) | t :: q => (some { b with scr := [(false, t)], nam := q }, 0, 0)) else (some { b with nam := r.drop j }, (0 : Int), (0 : Nat))) = (o, c, k) := h
      by_cases hs : b.scr = []
      · rw [if_pos hs] at h2
        cases hdr : r.drop j with
        | nil => rw [hdr] at h2; simp only [Prod.mk.injEq] at h2; omega
        | cons t q => rw [hdr] at h2; simp only [Prod.mk.injEq] at h2; omega
      · rw [if_neg hs] at h2; simp only [Prod.mk.injEq] at h2; omega
    · rw [h'] at h; simp only [Prod.mk.injEq] at h; omega

/-- The three ways. -/
theorem three_ways (f : Bool) (t : ByteArray) (r : List ByteArray) (h : r.length + 2 ≤ 65536) :
    ∃ o c k1 k2, readL ([letT f, t] ++ r) = (o, c, k1) ∧ readL ([namT f ++ t] ++ r) = (o, c, k2) ∧ (t.size ≠ 0 → readL ([letT f ++ t] ++ r) = (o, c, k2)) ∧ (c ≠ 0 → k1 = k2 + 1) ∧ k2 ≤ 65537 ∧ k1 ≤ 65538 := by
  have h1 := read_v1 f t r h
  have h2 := read_v2 f t r h
  have h3 := fun hv => read_v3 f t hv r h
  have hle := endW_le r (doOpt zeroAv t (if f then 4 else 3))
  rcases endW_or r (readW r 0 (doOpt zeroAv t (if f then 4 else 3))) with ⟨k, hk⟩ | ⟨a, hk⟩
  · have := hle _ _ _ hk
    rw [hk] at h1 h2 h3
    exact ⟨none, 260, k + 2, k + 1, h1, h2, h3, fun _ => rfl, by omega, by omega⟩
  · rw [hk] at h1 h2 h3
    exact ⟨some a, 0, 0, 0, h1, h2, h3, fun h => absurd rfl h, by omega, by omega⟩

set_option maxRecDepth 100000 in
set_option maxHeartbeats 6400000 in
theorem values_true (t : ByteArray) (v : Value) (l : List ByteArray) (w : World) (ht : t.size ≤ 140737488351232) (hl : Ls w v l) : Calls Try.prog 8 #[.string t, .bool true, v] w fun e w' => e = .returned (.bool true) ∧ Below w.heap.size w w' := by
  have HL := Lib.hid hl
  obtain ⟨la, lcap, rfl, _⟩ := id hl.tz.tx
  have hln := hl.ln
  have hw := wrap_in ((l.length : Int) + 2) (by omega) (by omega)
  clear hl
  by_cases hbig : 65536 < l.length + 2
  · have z1 : decide ((65536 : Int) < (l.length : Int) + 2) = true := decide_eq_true (by omega)
    clear hbig
    go_enter Try.func8, Try.ntmps8
    go_wp2_with fail
    refine (begins_any _).mono ?_
    rintro e w1 ⟨rfl, hb1⟩
    go_wp2_with fail
    go_ret
    exact ⟨rfl, hb1⟩
  · have z1 : decide ((65536 : Int) < (l.length : Int) + 2) = false := decide_eq_false (by omega)
    have hle : l.length ≤ 65534 := by omega
    obtain ⟨o, c, k1, k2, e1, e2, e3, hk, q1, q2⟩ := three_ways true t l (by omega)
    obtain ⟨a, ha⟩ : ∃ a, o.getD zeroAv = a := ⟨_, rfl⟩
    have hlen := getD_len e1 ha
    have hap : ∀ p : ByteArray, p.size ≤ 100 → (p ++ t).size ≤ 9223372036854775807 := fun p hp => by rw [ByteArray.size_append]; omega
    have HR1 := Lib.hid (fun W u (hu : Tz W u ([⟨#[45, 102]⟩, t] ++ l)) => read_isM e1 ha hu (by
      intro s hs
      rcases List.mem_append.1 hs with hs | hs
      · rcases List.mem_cons.1 hs with rfl | hs
        · show 2 ≤ _; omega
        · rw [List.mem_singleton.1 hs]; omega
      · have := HL.out.sz s hs; omega))
    have HR2 := Lib.hid (fun W u (hu : Tz W u ([⟨#[45, 45, 102, 105, 108, 101, 61]⟩ ++ t] ++ l)) => read_isM e2 ha hu (by
      intro s hs
      rcases List.mem_append.1 hs with hs | hs
      · rw [List.mem_singleton.1 hs]; exact hap _ (by decide)
      · have := HL.out.sz s hs; omega))
    have HR3 := Lib.hid (fun W u (hne : t.size ≠ 0) (hu : Tz W u ([⟨#[45, 102]⟩ ++ t] ++ l)) => read_isM (e3 hne) ha hu (by
      intro s hs
      rcases List.mem_append.1 hs with hs | hs
      · rw [List.mem_singleton.1 hs]; exact hap _ (by decide)
      · have := HL.out.sz s hs; omega))
    have HK := Lib.hid hk
    have hw2 := wrap_in ((k2 : Int) + 1) (by omega) (by omega)
    clear hbig e1 e2 e3 hk hap ha
    go_enter Try.func8, Try.ntmps8
    go_wp2_with fail
    refine (begins_any _).mono ?_
    rintro e w1 ⟨rfl, hb1⟩
    have HB1 := Lib.hid hb1
    have HB2 := Lib.hid (bl_to hb1 (bl_alloc w1 (.cells #[.string ⟨#[45, 102]⟩, .string t] 9)))
    have HO := Lib.hid (out_block (base := w.heap.size) (n := 2) (l := [⟨#[45, 102]⟩, t]) rfl hb1.size (by omega) (heap_alloc_new w1 (.cells #[.string ⟨#[45, 102]⟩, .string t] 9)))
    have hbs := hb1.size
    clear hb1
    go_wp2_with (at_builtin; go_must (refine wpList_append_texts rfl (.tmp 28) (.tmp 29) rfl w.heap.size _ [⟨#[45, 102]⟩, t] rfl HO.out _ l rfl (HL.out.tz.to HB2.out) (by simp) (by omega) (by simp; omega) ?_))
    intro v3 w3 ho3 hb3
    obtain ⟨va3, vc3, rfl⟩ := row_slice ho3
    have HB3 := Lib.hid (HB2.out.trans hb3)
    have HO3 := Lib.hid ho3
    clear ho3 hb3
    go_wp2_with fail
    refine (HR1.out _ _ (Tz.ofOwn HO3.out)).mono ?_
    rintro e w4 ⟨so, sc, no, nc, rfl, r1, r2, hb4⟩
    obtain ⟨w5, hw5⟩ : ∃ w5, w4.alloc (.cells (a.cells (.slice so a.scr.length sc) (.slice no a.nam.length nc)) 27) = w5 := ⟨_, rfl⟩
    have hbx := Bx.of hw5 r1 r2
    have HB5 := Lib.hid (bl_to HB3.out (bl_to hb4 hbx.2))
    have HBX := Lib.hid hbx.1
    have HB6 := Lib.hid (bl_to HB5.out (bl_alloc w5 (.cells #[.string (⟨#[45, 45, 102, 105, 108, 101, 61]⟩ ++ t)] 9)))
    have HB56 := Lib.hid (bl_alloc w5 (.cells #[.string (⟨#[45, 45, 102, 105, 108, 101, 61]⟩ ++ t)] 9))
    have HO6 := Lib.hid (out_block (base := w5.heap.size) (n := 1) (l := [⟨#[45, 45, 102, 105, 108, 101, 61]⟩ ++ t]) rfl (Nat.le_refl _) (by omega) (heap_alloc_new w5 (.cells #[.string (⟨#[45, 45, 102, 105, 108, 101, 61]⟩ ++ t)] 9)))
    have hbs5 := HB5.out.size
    clear r1 r2 hb4 hbx
    go_wp2_with (at_builtin; go_must (refine wpList_append_texts rfl (.tmp 39) (.tmp 40) rfl w5.heap.size _ [(⟨#[45, 45, 102, 105, 108, 101, 61]⟩ : ByteArray) ++ t] rfl HO6.out _ l rfl (HL.out.tz.to HB6.out) (by simp) (by omega) (by simp) ?_))
    intro v7 w7 ho7 hb7
    obtain ⟨va7, vc7, rfl⟩ := row_slice ho7
    have HB7 := Lib.hid (HB6.out.trans (hb7.mono hbs5))
    have HBX7 := Lib.hid (HBX.out.to (HB56.out.trans hb7))
    have HO7 := Lib.hid ho7
    clear ho7 hb7
    go_wp2_with fail
    refine (HR2.out _ _ (Tz.ofOwn HO7.out)).mono ?_
    rintro e w8 ⟨so8, sc8, no8, nc8, rfl, r1, r2, hb8⟩
    obtain ⟨w9, hw9⟩ : ∃ w9, w8.alloc (.cells (a.cells (.slice so8 a.scr.length sc8) (.slice no8 a.nam.length nc8)) 27) = w9 := ⟨_, rfl⟩
    have hbx := Bx.of hw9 r1 r2
    have HBX9 := Lib.hid (HBX7.out.to (bl_to hb8 hbx.2))
    have HB9 := Lib.hid (bl_to HB7.out (bl_to hb8 hbx.2))
    have HS := Lib.hid (rsame_any _ _ a a w9 HBX9.out.ax hbx.1.ax (by omega) (by omega) (by omega) (by omega))
    rw [avB_self] at HS
    obtain ⟨y0, y1, y2, y3, y4, y5, y6⟩ := cells7 HBX9.out.blk
    obtain ⟨z0, z1', z2, z3, z4, z5, z6⟩ := cells7 hbx.1.blk
    clear r1 r2 hb8 hbx
    go_wp2_with fail
    refine HS.out.mono ?_
    rintro e w10 ⟨rfl, hb10⟩
    have HB10 := Lib.hid (bl_to HB9.out hb10)
    have HBX10 := Lib.hid (HBX9.out.to hb10)
    clear y0 y1 y2 y3 y4 y5 y6 z0 z1' z2 z3 z4 z5 z6 hb10 HO HO3 HO6 HO7 HB1 HB2 HB3 HB5 HB6 HB56 HB7 HBX HBX7 HBX9 HB9 HR1 HR2 HS
    obtain ⟨y0, y1, y2, y3, y4, y5, y6⟩ := cells7 HBX10.out.blk
    have hbs10 := HB10.out.size
    have HB11 := Lib.hid (bl_to HB10.out (bl_alloc w10 (.cells #[.string (⟨#[45, 102]⟩ ++ t)] 9)))
    have HB1011 := Lib.hid (bl_alloc w10 (.cells #[.string (⟨#[45, 102]⟩ ++ t)] 9))
    have HO11 := Lib.hid (out_block (base := w10.heap.size) (n := 1) (l := [⟨#[45, 102]⟩ ++ t]) rfl (Nat.le_refl _) (by omega) (heap_alloc_new w10 (.cells #[.string (⟨#[45, 102]⟩ ++ t)] 9)))
    by_cases hz : t.size = 0
    · have s1 : (t.toList == ([] : List UInt8)) = true := by rw [emp_toList]; exact decide_eq_true hz
      have s2 : t.toList.isEmpty = true := by rw [emp_toList2]; exact decide_eq_true hz
      by_cases hc : c = 0
      · subst hc
        go_wp2_with fail
        go_ret
        exact ⟨rfl, HB10.out⟩
      · have hc1 : (c != 0) = true := by simpa using hc
        obtain rfl : k1 = k2 + 1 := HK.out hc
        clear hc
        go_wp2_with fail
        go_ret
        exact ⟨rfl, HB10.out⟩
    · have s1 : (t.toList == ([] : List UInt8)) = false := by rw [emp_toList]; exact decide_eq_false hz
      have s2 : t.toList.isEmpty = false := by rw [emp_toList2]; exact decide_eq_false hz
      have HR3' := Lib.hid (fun W u hu => HR3.out W u hz hu)
      clear hz HR3
      by_cases hc : c = 0
      · subst hc
        go_wp2_with (at_builtin; go_must (refine wpList_append_texts rfl (.tmp 71) (.tmp 72) rfl w10.heap.size _ [(⟨#[45, 102]⟩ : ByteArray) ++ t] rfl HO11.out _ l rfl (HL.out.tz.to HB11.out) (by simp) (by omega) (by simp) ?_))
        intro v12 w12 ho12 hb12
        obtain ⟨va12, vc12, rfl⟩ := row_slice ho12
        have HB12 := Lib.hid (HB11.out.trans (hb12.mono hbs10))
        have HBX12 := Lib.hid (HBX10.out.to (HB1011.out.trans hb12))
        have HO12 := Lib.hid ho12
        clear ho12 hb12 y0 y1 y2 y3 y4 y5 y6
        go_wp2_with fail
        refine (HR3'.out _ _ (Tz.ofOwn HO12.out)).mono ?_
        rintro e w13 ⟨so13, sc13, no13, nc13, rfl, r1, r2, hb13⟩
        obtain ⟨w14, hw14⟩ : ∃ w14, w13.alloc (.cells (a.cells (.slice so13 a.scr.length sc13) (.slice no13 a.nam.length nc13)) 27) = w14 := ⟨_, rfl⟩
        have hbx := Bx.of hw14 r1 r2
        have HBX14 := Lib.hid (HBX12.out.to (bl_to hb13 hbx.2))
        have HB14 := Lib.hid (bl_to HB12.out (bl_to hb13 hbx.2))
        have HS := Lib.hid (rsame_any _ _ a a w14 HBX14.out.ax hbx.1.ax (by omega) (by omega) (by omega) (by omega))
        rw [avB_self] at HS
        obtain ⟨y0, y1, y2, y3, y4, y5, y6⟩ := cells7 HBX14.out.blk
        obtain ⟨z0, z1', z2, z3, z4, z5, z6⟩ := cells7 hbx.1.blk
        clear r1 r2 hb13 hbx
        go_wp2_with fail
        refine HS.out.mono ?_
        rintro e w15 ⟨rfl, hb15⟩
        have HB15 := Lib.hid (bl_to HB14.out hb15)
        clear hb15
        go_wp2_with fail
        go_ret
        exact ⟨rfl, HB15.out⟩
      · have hc1 : (c != 0) = true := by simpa using hc
        have hc2 : (c == 0) = false := by simpa using hc
        obtain rfl : k1 = k2 + 1 := HK.out hc
        clear hc
        go_wp2_with (at_builtin; go_must (refine wpList_append_texts rfl (.tmp 71) (.tmp 72) rfl w10.heap.size _ [(⟨#[45, 102]⟩ : ByteArray) ++ t] rfl HO11.out _ l rfl (HL.out.tz.to HB11.out) (by simp) (by omega) (by simp) ?_))
        intro v12 w12 ho12 hb12
        obtain ⟨va12, vc12, rfl⟩ := row_slice ho12
        have HB12 := Lib.hid (HB11.out.trans (hb12.mono hbs10))
        have HBX12 := Lib.hid (HBX10.out.to (HB1011.out.trans hb12))
        have HO12 := Lib.hid ho12
        clear ho12 hb12 y0 y1 y2 y3 y4 y5 y6
        go_wp2_with fail
        refine (HR3'.out _ _ (Tz.ofOwn HO12.out)).mono ?_
        rintro e w13 ⟨so13, sc13, no13, nc13, rfl, r1, r2, hb13⟩
        obtain ⟨w14, hw14⟩ : ∃ w14, w13.alloc (.cells (a.cells (.slice so13 a.scr.length sc13) (.slice no13 a.nam.length nc13)) 27) = w14 := ⟨_, rfl⟩
        have hbx := Bx.of hw14 r1 r2
        have HBX14 := Lib.hid (HBX12.out.to (bl_to hb13 hbx.2))
        have HB14 := Lib.hid (bl_to HB12.out (bl_to hb13 hbx.2))
        have HS := Lib.hid (rsame_any _ _ a a w14 HBX14.out.ax hbx.1.ax (by omega) (by omega) (by omega) (by omega))
        rw [avB_self] at HS
        obtain ⟨y0, y1, y2, y3, y4, y5, y6⟩ := cells7 HBX14.out.blk
        obtain ⟨z0, z1', z2, z3, z4, z5, z6⟩ := cells7 hbx.1.blk
        clear r1 r2 hb13 hbx
        go_wp2_with fail
        refine HS.out.mono ?_
        rintro e w15 ⟨rfl, hb15⟩
        have HB15 := Lib.hid (bl_to HB14.out hb15)
        clear hb15
        go_wp2_with fail
        go_ret
        exact ⟨rfl, HB15.out⟩

set_option maxRecDepth 100000 in
set_option maxHeartbeats 6400000 in
theorem values_false (t : ByteArray) (v : Value) (l : List ByteArray) (w : World) (ht : t.size ≤ 140737488351232) (hl : Ls w v l) : Calls Try.prog 8 #[.string t, .bool false, v] w fun e w' => e = .returned (.bool true) ∧ Below w.heap.size w w' := by
  have HL := Lib.hid hl
  obtain ⟨la, lcap, rfl, _⟩ := id hl.tz.tx
  have hln := hl.ln
  have hw := wrap_in ((l.length : Int) + 2) (by omega) (by omega)
  clear hl
  by_cases hbig : 65536 < l.length + 2
  · have z1 : decide ((65536 : Int) < (l.length : Int) + 2) = true := decide_eq_true (by omega)
    clear hbig
    go_enter Try.func8, Try.ntmps8
    go_wp2_with fail
    refine (begins_any _).mono ?_
    rintro e w1 ⟨rfl, hb1⟩
    go_wp2_with fail
    go_ret
    exact ⟨rfl, hb1⟩
  · have z1 : decide ((65536 : Int) < (l.length : Int) + 2) = false := decide_eq_false (by omega)
    have hle : l.length ≤ 65534 := by omega
    obtain ⟨o, c, k1, k2, e1, e2, e3, hk, q1, q2⟩ := three_ways false t l (by omega)
    obtain ⟨a, ha⟩ : ∃ a, o.getD zeroAv = a := ⟨_, rfl⟩
    have hlen := getD_len e1 ha
    have hap : ∀ p : ByteArray, p.size ≤ 100 → (p ++ t).size ≤ 9223372036854775807 := fun p hp => by rw [ByteArray.size_append]; omega
    have HR1 := Lib.hid (fun W u (hu : Tz W u ([⟨#[45, 101]⟩, t] ++ l)) => read_isM e1 ha hu (by
      intro s hs
      rcases List.mem_append.1 hs with hs | hs
      · rcases List.mem_cons.1 hs with rfl | hs
        · show 2 ≤ _; omega
        · rw [List.mem_singleton.1 hs]; omega
      · have := HL.out.sz s hs; omega))
    have HR2 := Lib.hid (fun W u (hu : Tz W u ([⟨#[45, 45, 101, 120, 112, 114, 101, 115, 115, 105, 111, 110, 61]⟩ ++ t] ++ l)) => read_isM e2 ha hu (by
      intro s hs
      rcases List.mem_append.1 hs with hs | hs
      · rw [List.mem_singleton.1 hs]; exact hap _ (by decide)
      · have := HL.out.sz s hs; omega))
    have HR3 := Lib.hid (fun W u (hne : t.size ≠ 0) (hu : Tz W u ([⟨#[45, 101]⟩ ++ t] ++ l)) => read_isM (e3 hne) ha hu (by
      intro s hs
      rcases List.mem_append.1 hs with hs | hs
      · rw [List.mem_singleton.1 hs]; exact hap _ (by decide)
      · have := HL.out.sz s hs; omega))
    have HK := Lib.hid hk
    have hw2 := wrap_in ((k2 : Int) + 1) (by omega) (by omega)
    clear hbig e1 e2 e3 hk hap ha
    go_enter Try.func8, Try.ntmps8
    go_wp2_with fail
    refine (begins_any _).mono ?_
    rintro e w1 ⟨rfl, hb1⟩
    have HB1 := Lib.hid hb1
    have HB2 := Lib.hid (bl_to hb1 (bl_alloc w1 (.cells #[.string ⟨#[45, 101]⟩, .string t] 9)))
    have HO := Lib.hid (out_block (base := w.heap.size) (n := 2) (l := [⟨#[45, 101]⟩, t]) rfl hb1.size (by omega) (heap_alloc_new w1 (.cells #[.string ⟨#[45, 101]⟩, .string t] 9)))
    have hbs := hb1.size
    clear hb1
    go_wp2_with (at_builtin; go_must (refine wpList_append_texts rfl (.tmp 28) (.tmp 29) rfl w.heap.size _ [⟨#[45, 101]⟩, t] rfl HO.out _ l rfl (HL.out.tz.to HB2.out) (by simp) (by omega) (by simp; omega) ?_))
    intro v3 w3 ho3 hb3
    obtain ⟨va3, vc3, rfl⟩ := row_slice ho3
    have HB3 := Lib.hid (HB2.out.trans hb3)
    have HO3 := Lib.hid ho3
    clear ho3 hb3
    go_wp2_with fail
    refine (HR1.out _ _ (Tz.ofOwn HO3.out)).mono ?_
    rintro e w4 ⟨so, sc, no, nc, rfl, r1, r2, hb4⟩
    obtain ⟨w5, hw5⟩ : ∃ w5, w4.alloc (.cells (a.cells (.slice so a.scr.length sc) (.slice no a.nam.length nc)) 27) = w5 := ⟨_, rfl⟩
    have hbx := Bx.of hw5 r1 r2
    have HB5 := Lib.hid (bl_to HB3.out (bl_to hb4 hbx.2))
    have HBX := Lib.hid hbx.1
    have HB6 := Lib.hid (bl_to HB5.out (bl_alloc w5 (.cells #[.string (⟨#[45, 45, 101, 120, 112, 114, 101, 115, 115, 105, 111, 110, 61]⟩ ++ t)] 9)))
    have HB56 := Lib.hid (bl_alloc w5 (.cells #[.string (⟨#[45, 45, 101, 120, 112, 114, 101, 115, 115, 105, 111, 110, 61]⟩ ++ t)] 9))
    have HO6 := Lib.hid (out_block (base := w5.heap.size) (n := 1) (l := [⟨#[45, 45, 101, 120, 112, 114, 101, 115, 115, 105, 111, 110, 61]⟩ ++ t]) rfl (Nat.le_refl _) (by omega) (heap_alloc_new w5 (.cells #[.string (⟨#[45, 45, 101, 120, 112, 114, 101, 115, 115, 105, 111, 110, 61]⟩ ++ t)] 9)))
    have hbs5 := HB5.out.size
    clear r1 r2 hb4 hbx
    go_wp2_with (at_builtin; go_must (refine wpList_append_texts rfl (.tmp 39) (.tmp 40) rfl w5.heap.size _ [(⟨#[45, 45, 101, 120, 112, 114, 101, 115, 115, 105, 111, 110, 61]⟩ : ByteArray) ++ t] rfl HO6.out _ l rfl (HL.out.tz.to HB6.out) (by simp) (by omega) (by simp) ?_))
    intro v7 w7 ho7 hb7
    obtain ⟨va7, vc7, rfl⟩ := row_slice ho7
    have HB7 := Lib.hid (HB6.out.trans (hb7.mono hbs5))
    have HBX7 := Lib.hid (HBX.out.to (HB56.out.trans hb7))
    have HO7 := Lib.hid ho7
    clear ho7 hb7
    go_wp2_with fail
    refine (HR2.out _ _ (Tz.ofOwn HO7.out)).mono ?_
    rintro e w8 ⟨so8, sc8, no8, nc8, rfl, r1, r2, hb8⟩
    obtain ⟨w9, hw9⟩ : ∃ w9, w8.alloc (.cells (a.cells (.slice so8 a.scr.length sc8) (.slice no8 a.nam.length nc8)) 27) = w9 := ⟨_, rfl⟩
    have hbx := Bx.of hw9 r1 r2
    have HBX9 := Lib.hid (HBX7.out.to (bl_to hb8 hbx.2))
    have HB9 := Lib.hid (bl_to HB7.out (bl_to hb8 hbx.2))
    have HS := Lib.hid (rsame_any _ _ a a w9 HBX9.out.ax hbx.1.ax (by omega) (by omega) (by omega) (by omega))
    rw [avB_self] at HS
    obtain ⟨y0, y1, y2, y3, y4, y5, y6⟩ := cells7 HBX9.out.blk
    obtain ⟨z0, z1', z2, z3, z4, z5, z6⟩ := cells7 hbx.1.blk
    clear r1 r2 hb8 hbx
    go_wp2_with fail
    refine HS.out.mono ?_
    rintro e w10 ⟨rfl, hb10⟩
    have HB10 := Lib.hid (bl_to HB9.out hb10)
    have HBX10 := Lib.hid (HBX9.out.to hb10)
    clear y0 y1 y2 y3 y4 y5 y6 z0 z1' z2 z3 z4 z5 z6 hb10 HO HO3 HO6 HO7 HB1 HB2 HB3 HB5 HB6 HB56 HB7 HBX HBX7 HBX9 HB9 HR1 HR2 HS
    obtain ⟨y0, y1, y2, y3, y4, y5, y6⟩ := cells7 HBX10.out.blk
    have hbs10 := HB10.out.size
    have HB11 := Lib.hid (bl_to HB10.out (bl_alloc w10 (.cells #[.string (⟨#[45, 101]⟩ ++ t)] 9)))
    have HB1011 := Lib.hid (bl_alloc w10 (.cells #[.string (⟨#[45, 101]⟩ ++ t)] 9))
    have HO11 := Lib.hid (out_block (base := w10.heap.size) (n := 1) (l := [⟨#[45, 101]⟩ ++ t]) rfl (Nat.le_refl _) (by omega) (heap_alloc_new w10 (.cells #[.string (⟨#[45, 101]⟩ ++ t)] 9)))
    by_cases hz : t.size = 0
    · have s1 : (t.toList == ([] : List UInt8)) = true := by rw [emp_toList]; exact decide_eq_true hz
      have s2 : t.toList.isEmpty = true := by rw [emp_toList2]; exact decide_eq_true hz
      by_cases hc : c = 0
      · subst hc
        go_wp2_with fail
        go_ret
        exact ⟨rfl, HB10.out⟩
      · have hc1 : (c != 0) = true := by simpa using hc
        obtain rfl : k1 = k2 + 1 := HK.out hc
        clear hc
        go_wp2_with fail
        go_ret
        exact ⟨rfl, HB10.out⟩
    · have s1 : (t.toList == ([] : List UInt8)) = false := by rw [emp_toList]; exact decide_eq_false hz
      have s2 : t.toList.isEmpty = false := by rw [emp_toList2]; exact decide_eq_false hz
      have HR3' := Lib.hid (fun W u hu => HR3.out W u hz hu)
      clear hz HR3
      by_cases hc : c = 0
      · subst hc
        go_wp2_with (at_builtin; go_must (refine wpList_append_texts rfl (.tmp 71) (.tmp 72) rfl w10.heap.size _ [(⟨#[45, 101]⟩ : ByteArray) ++ t] rfl HO11.out _ l rfl (HL.out.tz.to HB11.out) (by simp) (by omega) (by simp) ?_))
        intro v12 w12 ho12 hb12
        obtain ⟨va12, vc12, rfl⟩ := row_slice ho12
        have HB12 := Lib.hid (HB11.out.trans (hb12.mono hbs10))
        have HBX12 := Lib.hid (HBX10.out.to (HB1011.out.trans hb12))
        have HO12 := Lib.hid ho12
        clear ho12 hb12 y0 y1 y2 y3 y4 y5 y6
        go_wp2_with fail
        refine (HR3'.out _ _ (Tz.ofOwn HO12.out)).mono ?_
        rintro e w13 ⟨so13, sc13, no13, nc13, rfl, r1, r2, hb13⟩
        obtain ⟨w14, hw14⟩ : ∃ w14, w13.alloc (.cells (a.cells (.slice so13 a.scr.length sc13) (.slice no13 a.nam.length nc13)) 27) = w14 := ⟨_, rfl⟩
        have hbx := Bx.of hw14 r1 r2
        have HBX14 := Lib.hid (HBX12.out.to (bl_to hb13 hbx.2))
        have HB14 := Lib.hid (bl_to HB12.out (bl_to hb13 hbx.2))
        have HS := Lib.hid (rsame_any _ _ a a w14 HBX14.out.ax hbx.1.ax (by omega) (by omega) (by omega) (by omega))
        rw [avB_self] at HS
        obtain ⟨y0, y1, y2, y3, y4, y5, y6⟩ := cells7 HBX14.out.blk
        obtain ⟨z0, z1', z2, z3, z4, z5, z6⟩ := cells7 hbx.1.blk
        clear r1 r2 hb13 hbx
        go_wp2_with fail
        refine HS.out.mono ?_
        rintro e w15 ⟨rfl, hb15⟩
        have HB15 := Lib.hid (bl_to HB14.out hb15)
        clear hb15
        go_wp2_with fail
        go_ret
        exact ⟨rfl, HB15.out⟩
      · have hc1 : (c != 0) = true := by simpa using hc
        have hc2 : (c == 0) = false := by simpa using hc
        obtain rfl : k1 = k2 + 1 := HK.out hc
        clear hc
        go_wp2_with (at_builtin; go_must (refine wpList_append_texts rfl (.tmp 71) (.tmp 72) rfl w10.heap.size _ [(⟨#[45, 101]⟩ : ByteArray) ++ t] rfl HO11.out _ l rfl (HL.out.tz.to HB11.out) (by simp) (by omega) (by simp) ?_))
        intro v12 w12 ho12 hb12
        obtain ⟨va12, vc12, rfl⟩ := row_slice ho12
        have HB12 := Lib.hid (HB11.out.trans (hb12.mono hbs10))
        have HBX12 := Lib.hid (HBX10.out.to (HB1011.out.trans hb12))
        have HO12 := Lib.hid ho12
        clear ho12 hb12 y0 y1 y2 y3 y4 y5 y6
        go_wp2_with fail
        refine (HR3'.out _ _ (Tz.ofOwn HO12.out)).mono ?_
        rintro e w13 ⟨so13, sc13, no13, nc13, rfl, r1, r2, hb13⟩
        obtain ⟨w14, hw14⟩ : ∃ w14, w13.alloc (.cells (a.cells (.slice so13 a.scr.length sc13) (.slice no13 a.nam.length nc13)) 27) = w14 := ⟨_, rfl⟩
        have hbx := Bx.of hw14 r1 r2
        have HBX14 := Lib.hid (HBX12.out.to (bl_to hb13 hbx.2))
        have HB14 := Lib.hid (bl_to HB12.out (bl_to hb13 hbx.2))
        have HS := Lib.hid (rsame_any _ _ a a w14 HBX14.out.ax hbx.1.ax (by omega) (by omega) (by omega) (by omega))
        rw [avB_self] at HS
        obtain ⟨y0, y1, y2, y3, y4, y5, y6⟩ := cells7 HBX14.out.blk
        obtain ⟨z0, z1', z2, z3, z4, z5, z6⟩ := cells7 hbx.1.blk
        clear r1 r2 hb13 hbx
        go_wp2_with fail
        refine HS.out.mono ?_
        rintro e w15 ⟨rfl, hb15⟩
        have HB15 := Lib.hid (bl_to HB14.out hb15)
        clear hb15
        go_wp2_with fail
        go_ret
        exact ⟨rfl, HB15.out⟩

theorem values_any (t : ByteArray) (f : Bool) (v : Value) (l : List ByteArray) (w : World) (ht : t.size ≤ 140737488351232) (hl : Ls w v l) : Calls Try.prog 8 #[.string t, .bool f, v] w fun e w' => e = .returned (.bool true) ∧ Below w.heap.size w w' := by
  cases f
  · exact values_false t v l w ht hl
  · exact values_true t v l w ht hl
end Go.Proofs.Ytbigolappdlhcaa
