/- The walk of ArgsLetters. -/
import Derived.Test.YtbigolappdlhcaaZJ
namespace Go.Proofs.Ytbigolappdlhcaa
set_option linter.unusedSimpArgs false
set_option linter.unusedVariables false
open Go.RowKit

/-- Two rows, as long as the loop has come. -/
def LJ (W : World) (bs : List UInt8) (k : Nat) (v u : Value) (wr : World) : Prop :=
  Out wr W.heap.size v ((bs.take k).map (fun b => flagT [b])) ∧ Out wr W.heap.size u ((bs.take k).map longT) ∧ (∀ g, v.ownBlock = some g → u.ownBlock ≠ some g) ∧ Below W.heap.size W wr
def longCells : Array Value := #[.string ⟨#[45, 45, 113, 117, 105, 101, 116]⟩, .string ⟨#[45, 45, 114, 101, 103, 101, 120, 112, 45, 101, 120, 116, 101, 110, 100, 101, 100]⟩, .string ⟨#[45, 45, 114, 101, 103, 101, 120, 112, 45, 101, 120, 116, 101, 110, 100, 101, 100]⟩, .string ⟨#[45, 45, 115, 101, 112, 97, 114, 97, 116, 101]⟩]
theorem longT_cases (t : UInt8) : (∃ j : Nat, (t.toNat : Int) % 4 = (j : Int) ∧ j < 4 ∧ longCells[j]? = some (.string (longT t))) := by
  unfold longT
  rcases (show t.toNat % 4 = 0 ∨ t.toNat % 4 = 1 ∨ t.toNat % 4 = 2 ∨ t.toNat % 4 = 3 by omega) with h | h | h | h
  · exact ⟨0, by omega, by omega, by rw [h]; rfl⟩
  · exact ⟨1, by omega, by omega, by rw [h]; rfl⟩
  · exact ⟨2, by omega, by omega, by rw [h]; rfl⟩
  · exact ⟨3, by omega, by omega, by rw [h]; rfl⟩

set_option maxRecDepth 100000 in
set_option maxHeartbeats 12800000 in
theorem letters_core (bs : List UInt8) (yv : Value) (v : Value) (l : List ByteArray) (w : World) (hy : Yx w yv bs) (hl : Ls w v l) (hne : bs ≠ []) (hsm : bs.length + l.length ≤ 65536) : Calls Try.prog 6 #[yv, v] w fun e w' => e = .returned (.bool true) ∧ Below w.heap.size w w' := by
  obtain ⟨o, c, k1, k2, e1, e2, e3, hk, q1, q2⟩ := letter_ways bs hne l hsm
  obtain ⟨a, ha⟩ : ∃ a, o.getD zeroAv = a := ⟨_, rfl⟩
  have hlen := getD_len e1 ha
  have HL := Lib.hid hl
  have HY := Lib.hid hy
  obtain ⟨la, lcap, rfl, _⟩ := id hl.tz.tx
  obtain ⟨ya, ycap, rfl, hyc, _⟩ := id hy
  have hn0 : 0 < bs.length := List.length_pos_iff.2 hne
  have z0 : ((bs.length : Int) == 0) = false := by simp; omega
  have hw := wrap_in ((bs.length : Int) + (l.length : Int)) (by omega) (by omega)
  have z1 : decide ((65536 : Int) < (bs.length : Int) + (l.length : Int)) = false := decide_eq_false (by omega)
  have hs0 : ∀ t ∈ l, t.size ≤ 9223372036854775807 := fun s hs => by have := hl.sz s hs; omega
  have HR1 := Lib.hid (fun W u (hu : Tz W u ([flagT bs] ++ l)) => read_isM e1 ha hu (by
    intro s hs
    rcases List.mem_append.1 hs with hs | hs
    · rw [List.mem_singleton.1 hs, flagT_size]; omega
    · exact hs0 s hs))
  have HR2 := Lib.hid (fun W u (hu : Tz W u (bs.map (fun b => flagT [b]) ++ l)) => read_isM e2 ha hu (by
    intro s hs
    rcases List.mem_append.1 hs with hs | hs
    · obtain ⟨b, _, rfl⟩ := List.mem_map.1 hs; rw [flagT_size]; simp
    · exact hs0 s hs))
  have HR3 := Lib.hid (fun W u (hu : Tz W u (bs.map longT ++ l)) => read_isM e3 ha hu (by
    intro s hs
    rcases List.mem_append.1 hs with hs | hs
    · obtain ⟨b, _, rfl⟩ := List.mem_map.1 hs; have := (let_opt b).2.2.2.2.2; omega
    · exact hs0 s hs))
  have HK := Lib.hid hk
  have HF := Lib.hid (fun W (hW : Below w.heap.size w W) => flags_any _ bs W (hy.to hW) (by omega))
  have hln : l.length ≤ 65536 := by omega
  have hbn : bs.length ≤ 65536 := by omega
  clear e1 e2 e3 hk ha hl hy hs0 hsm hne
  go_enter Try.func6, Try.ntmps6
  go_wp2_with fail
  refine (begins_any _).mono ?_
  rintro e w1 ⟨rfl, hb1⟩
  have HB1 := Lib.hid hb1
  have HBL := Lib.hid (bl_to hb1 (bl_alloc w1 (.cells longCells 9)))
  have hlb := heap_alloc_new w1 (.cells longCells 9)
  have hbs1 := hb1.size
  clear hb1
  go_wp2_with fail
  refine (HF.out _ HBL.out).mono ?_
  rintro e w2 ⟨rfl, rfl⟩
  have HO := Lib.hid (out_block (base := w1.heap.size + 1) (b := w1.heap.size + 1) (n := 1) (l := [flagT bs]) rfl (Nat.le_refl _) (by omega) (heap_alloc_at (w1.alloc (.cells longCells 9)) (.cells #[.string (flagT bs)] 9) (w1.heap.size + 1) (by simp)))
  have hlb2 := (heap_alloc_old (w1.alloc (.cells longCells 9)) (.cells #[.string (flagT bs)] 9) (r := w1.heap.size) (by simp)).trans hlb
  have HB2 := Lib.hid (bl_to HBL.out (bl_alloc (w1.alloc (.cells longCells 9)) (.cells #[.string (flagT bs)] 9)))
  have HLB := Lib.hid hlb2
  clear hlb hlb2
  go_wp2_with fail
  generalize (w1.alloc (.cells longCells 9)).alloc (.cells #[.string (flagT bs)] 9) = W2 at *
  have hW2 : w1.heap.size + 2 ≤ W2.heap.size := by
    rcases HO.out.2 with ⟨h, _⟩ | ⟨g, cap, cur, h, _, hgg, _⟩
    · simp at h
    · simp only [Value.slice.injEq, Option.some.injEq, Addr.mk.injEq] at h
      obtain ⟨⟨rfl, _⟩, _⟩ := h
      have := lt_of_block hgg
      omega
  obtain ⟨i9, hi9, hz90, hz91, hz92⟩ := info_parts info9
  go_loopw [7, 8, 9] (fun s7 s8 s9 wr => ∃ k : Nat, k ≤ bs.length ∧ s9 = .int .i64 k ∧ LJ W2 bs k s7 s8 wr) (fun _ _ s9 _ => bs.length - (intOf s9).toNat)
  case atStart => exact ⟨0, Nat.zero_le _, rfl, Out.nil _ _, Out.nil _ _, fun g h => by simp [Value.ownBlock] at h, Below.refl _ _⟩
  case round =>
    obtain ⟨k, hk, rfl, h1, h2, h3, h4⟩ := hrel
    have HBW := Lib.hid (HB2.out.trans (h4.mono (by omega)))
    by_cases hlt : k < bs.length
    · obtain ⟨_, _, e1, _, hc1⟩ := HY.out
      simp only [Value.slice.injEq, true_and] at e1
      obtain ⟨rfl, rfl⟩ := e1
      obtain ⟨b, off, rfl, hbl, hc⟩ := hc1 hn0
      have d0 := hc k hlt
      obtain ⟨t, ht⟩ : ∃ t, bs[k] = t := ⟨_, rfl⟩
      rw [ht] at d0
      have HD := Lib.hid (fun W (hb : Below w.heap.size w W) => (hb.cell (p := ⟨b, off + k, none⟩) hbl).trans d0)
      replace d0 := HD.out wr HBW.out
      have hblr : b < wr.heap.size := Nat.lt_of_lt_of_le hbl HBW.out.size
      have HT1 : Hid ((bs.take (k + 1)).map (fun b => flagT [b]) = (bs.take k).map (fun b => flagT [b]) ++ [flagT [t]]) := by show _ = _; rw [List.take_succ_eq_append_getElem hlt, ht, List.map_append]; rfl
      have HT2 : Hid ((bs.take (k + 1)).map longT = (bs.take k).map longT ++ [longT t]) := by show _ = _; rw [List.take_succ_eq_append_getElem hlt, ht, List.map_append]; rfl
      have HFK := Lib.hid (flags_any (.slice (some ⟨b, off + k, none⟩) 1 (ycap - k)) [t] wr ⟨_, _, rfl, by simp; omega, fun _ => ⟨b, off + k, rfl, hblr, fun i hi => by
        have hi0 : i = 0 := by simpa using hi
        subst hi0; exact d0⟩⟩ (by simp))
      obtain ⟨j, hj, hj4, hcj⟩ := longT_cases t
      have HCJ := Lib.hid hcj
      have hl1 : ((bs.take k).map (fun b => flagT [b])).length = k := by rw [List.length_map, List.length_take]; omega
      have hl2 : ((bs.take k).map longT).length = k := by rw [List.length_map, List.length_take]; omega
      obtain ⟨L1, hL1⟩ : ∃ L, (bs.take k).map (fun b => flagT [b]) = L := ⟨_, rfl⟩
      obtain ⟨L2, hL2⟩ : ∃ L, (bs.take k).map longT = L := ⟨_, rfl⟩
      rw [hL1] at h1 hl1 HT1
      rw [hL2] at h2 hl2 HT2
      have H1 := Lib.hid h1
      have H2 := Lib.hid h2
      have H3 := Lib.hid h3
      have H4 := Lib.hid h4
      have G1 : Hid (wr.ownsRow W2.heap.size 9 1 u7 k (L1.map Value.string)) := by rw [← hl1]; exact h1
      have hbs2 := h4.size
      have hfar : W2.heap.size ≤ wr.heap.size := h4.size
      have hk1 : (k : Int) < (bs.length : Int) := by omega
      have hk2 := wrap_in ((k : Int) + 1) (by omega) (by omega)
      have hk3 : (k : Int) + 1 ≤ (ycap : Int) := by omega
      have hcp : ¬ ycap = k := by omega
      have hcp2 : ¬ k = ycap := by omega
      have HL1 := Lib.hid hl1
      have HL2 := Lib.hid hl2
      have h63 : k + 1 ≤ maxLen := by unfold maxLen; omega
      have hby : (k + 1) * 16 ≤ 140737488355328 := by omega
      clear hc1 hc ht h1 h2 h3 h4 hcj hl1 hl2 hL1 hL2
      go_wp2_with fail
      refine HFK.out.mono ?_
      rintro e w2 ⟨rfl, rfl⟩
      go_wp2_with (at_builtin; go_must (refine wpList_append_lies _ rfl (.tmp 42) (.tmp 49) 25 rfl W2.heap.size 9 i9 (.string ⟨#[]⟩) 1 16 Try.underlying25 hi9 hz90 hz91 hz92 rfl (by decide) u7 k (L1.map Value.string) rfl (row_to (bl_alloc wr _) G1.out) ⟨wr.heap.size, 0, none⟩ 1 1 [.string (flagT [t])] rfl rfl (cells_one wr _ _) (by intro u hu; simp at hu; rcases hu with rfl; rfl) (by omega) h63 hby (by simp; omega) (wr.heap.size + 1) (by simp) ?_))
      intro g2 cap2 w3 hown hgrow hat hlt2
      obtain ⟨p1, p2, p3, p4⟩ := two_step H1.out H2.out H3.out hgrow (by rw [HL1.out]) hown (by rcases hat with h | h; exact .inl h; exact .inr (by omega)) H4.out hfar
      have P1 := Lib.hid p1
      have P2 := Lib.hid p2
      have P3 := Lib.hid p3
      have P4 := Lib.hid p4
      have G2 : Hid (w3.ownsRow W2.heap.size 9 1 u8 k (L2.map Value.string)) := by rw [← HL2.out]; exact p2
      have HBW3 := Lib.hid (HB2.out.trans (p4.mono (by omega)))
      have d3 := HD.out w3 HBW3.out
      have hcl := (blk_at ((p4.block _ (by omega)).trans HLB.out) j HCJ.out).1
      have hfar3 := p4.size
      have hji : (j : Int) < 4 := by omega
      clear hown hgrow hat hlt2 p1 p2 p3 p4 d0
      go_wp2_with (at_builtin; go_must (refine wpList_append_lies _ rfl (.tmp 51) (.tmp 60) 25 rfl W2.heap.size 9 i9 (.string ⟨#[]⟩) 1 16 Try.underlying25 hi9 hz90 hz91 hz92 rfl (by decide) u8 k (L2.map Value.string) rfl (row_to (bl_alloc w3 _) G2.out) ⟨w3.heap.size, 0, none⟩ 1 1 [.string (longT t)] rfl rfl (cells_one w3 _ _) (by intro u hu; simp at hu; rcases hu with rfl; rfl) (by omega) h63 hby (by simp; omega) (w3.heap.size + 1) (by simp) ?_))
      intro g4 cap4 w4 hown hgrow hat hlt2
      obtain ⟨p1, p2, p3, p4⟩ := two_step P2.out P1.out (fun g h1 h2 => P3.out g h2 h1) hgrow (by rw [HL2.out]) hown (by rcases hat with h | h; exact .inl h; exact .inr (by omega)) P4.out hfar3
      have HQ : Hid (LJ W2 bs (k + 1) (.slice (some ⟨g2, 0, none⟩) (k + 1) cap2) (.slice (some ⟨g4, 0, none⟩) (k + 1) cap4) w4) := ⟨by rw [HT1.out]; exact p2, by rw [HT2.out]; exact p1, fun g h1 h2 => p3 g h2 h1, p4⟩
      clear hown hgrow hat hlt2 p1 p2 p3 p4
      go_wp2_with fail
      go_roundw
      case rel => exact ⟨k + 1, by omega, by go_num, HQ.out⟩
      case measure => simp [intOf]; omega
    · obtain rfl : k = bs.length := by omega
      rw [List.take_of_length_le (Nat.le_refl _)] at h1 h2
      have hx1 : ¬ (bs.length : Int) < (bs.length : Int) := by omega
      have hmt : (bs.map (fun b => flagT [b])).length = bs.length := List.length_map _
      have hmh : (bs.map longT).length = bs.length := List.length_map _
      obtain ⟨TW, hTW⟩ : ∃ L, bs.map (fun b => flagT [b]) = L := ⟨_, rfl⟩
      obtain ⟨TH, hTH⟩ : ∃ L, bs.map longT = L := ⟨_, rfl⟩
      rw [hTW] at h1 HR2 hmt
      rw [hTH] at h2 HR3 hmh
      have hT1 : TW.length ≤ 200000 := by omega
      have hT2 : TH.length ≤ 200000 := by omega
      clear hTW hTH hmt hmh
      obtain ⟨a7, c7, rfl⟩ := row_slice h1
      obtain ⟨a8, c8, rfl⟩ := row_slice h2
      have HO1 := Lib.hid (HO.out.to h4)
      have HTr := Lib.hid (HL.out.tz.to HBW.out)
      have H1 := Lib.hid h1
      have H2 := Lib.hid h2
      have H3 := Lib.hid h3
      have hfar := h4.size
      clear h1 h2 h3 h4 hlt hk HO HLB HB2 HB1 HBL HF
      go_wp2_with (at_builtin; go_must (refine wpList_append_textsF rfl (.tmp 63) (.tmp 64) rfl (w1.heap.size + 1) _ [flagT bs] rfl HO1.out _ l rfl HTr.out (by simp) (by omega) (by omega) ?_))
      intro v3 w3 ho3 hf3
      obtain ⟨a3, c3, rfl⟩ := row_slice ho3
      have hS : ∀ i, (Value.slice (some (⟨w1.heap.size + 1, 0, none⟩ : Addr)) 1 1).ownBlock = some i → i = w1.heap.size + 1 := fun i hi => by simp only [Value.ownBlock, Option.some.injEq] at hi; exact hi.symm
      have HB3 := Lib.hid (HBW.out.trans (hf3.toBelow (by omega) (fun i _ hi => by have := hS i hi; omega) : Below w.heap.size wr w3))
      have g1 := row_fr hf3 H1.out (fun g hg e => by have := hS g e; have := (World.ownsRow.lt H1.out g hg).1; omega)
      have g2 := row_fr hf3 H2.out (fun g hg e => by have := hS g e; have := (World.ownsRow.lt H2.out g hg).1; omega)
      have HO3 := Lib.hid ho3
      have G1 := Lib.hid g1
      have G2 := Lib.hid g2
      have hfar3 : W2.heap.size ≤ w3.heap.size := Nat.le_trans hfar hf3.size
      clear ho3 hf3 g1 g2 hS
      go_wp2_with fail
      refine (HR1.out _ _ (Tz.ofOwn HO3.out)).mono ?_
      rintro e w4 ⟨so4, sc4, no4, nc4, rfl, r1, r2, hb4⟩
      obtain ⟨w5, hw5⟩ : ∃ w5, w4.alloc (.cells (a.cells (.slice so4 a.scr.length sc4) (.slice no4 a.nam.length nc4)) 27) = w5 := ⟨_, rfl⟩
      have hbx := Bx.of hw5 r1 r2
      have hb5 := bl_to hb4 hbx.2
      have HB5 := Lib.hid (bl_to HB3.out hb5)
      have HX5 := Lib.hid hbx.1
      have K1 := Lib.hid (row_to hb5 G1.out)
      have K2 := Lib.hid (row_to hb5 G2.out)
      have hfar5 : W2.heap.size ≤ w5.heap.size := Nat.le_trans hfar3 hb5.size
      have h34 : w3.heap.size ≤ w4.heap.size := hb4.size
      have HT5 := Lib.hid (HL.out.tz.to HB5.out)
      clear r1 r2 hb4 hbx hb5
      go_wp2_with (at_builtin; go_must (refine wpList_append_textsF rfl (.tmp 71) (.tmp 72) rfl W2.heap.size _ TW rfl K1.out _ l rfl HT5.out (by omega) (by omega) hfar5 ?_))
      intro v6 w6 ho6 hf6
      have htz := Tz.ofOwn ho6
      obtain ⟨a6, c6, rfl⟩ := row_slice ho6
      obtain ⟨n6, hn6⟩ : ∃ n, (TW ++ l).length = n := ⟨_, rfl⟩
      rw [hn6] at htz ⊢
      have HTZ6 := Lib.hid htz
      have HB6 := Lib.hid (HB5.out.trans (hf6.toBelow (by have := HB5.out.size; omega) (fun i _ hi => by have := (World.ownsRow.lt K1.out i hi).1; omega) : Below w.heap.size w5 w6))
      have HX6 := Lib.hid (HX5.out.fr hf6 (fun i hi => (World.ownsRow.lt G1.out i hi).2) h34)
      have M2 := Lib.hid (row_fr hf6 K2.out (fun g hg e => H3.out g e hg))
      have hfar6 : W2.heap.size ≤ w6.heap.size := Nat.le_trans hfar5 hf6.size
      have h56 : w5.heap.size ≤ w6.heap.size := hf6.size
      clear ho6 hf6 htz hn6
      go_wp2_with fail
      refine (HR2.out _ _ HTZ6.out).mono ?_
      rintro e w7 ⟨so7, sc7, no7, nc7, rfl, r1, r2, hb7⟩
      obtain ⟨w8, hw8⟩ : ∃ w8, w7.alloc (.cells (a.cells (.slice so7 a.scr.length sc7) (.slice no7 a.nam.length nc7)) 27) = w8 := ⟨_, rfl⟩
      have hbx := Bx.of hw8 r1 r2
      have hb8 := bl_to hb7 hbx.2
      have HB8 := Lib.hid (bl_to HB6.out hb8)
      have HX8 := Lib.hid (HX6.out.to hb8)
      have HY8 := Lib.hid hbx.1
      have N2 := Lib.hid (row_to hb8 M2.out)
      have hfar8 : W2.heap.size ≤ w8.heap.size := Nat.le_trans hfar6 hb8.size
      have h67 : w6.heap.size ≤ w7.heap.size := hb7.size
      have HT8 := Lib.hid (HL.out.tz.to HB8.out)
      clear r1 r2 hb7 hbx hb8
      go_wp2_with (at_builtin; go_must (refine wpList_append_textsF rfl (.tmp 79) (.tmp 80) rfl W2.heap.size _ TH rfl N2.out _ l rfl HT8.out (by omega) (by omega) hfar8 ?_))
      intro v9 w9 ho9 hf9
      have htz := Tz.ofOwn ho9
      obtain ⟨a9, c9, rfl⟩ := row_slice ho9
      obtain ⟨n9, hn9⟩ : ∃ n, (TH ++ l).length = n := ⟨_, rfl⟩
      rw [hn9] at htz ⊢
      have HTZ9 := Lib.hid htz
      have HB9 := Lib.hid (HB8.out.trans (hf9.toBelow (by have := HB8.out.size; omega) (fun i _ hi => by have := (World.ownsRow.lt N2.out i hi).1; omega) : Below w.heap.size w8 w9))
      have HX9 := Lib.hid (HX8.out.fr hf9 (fun i hi => (World.ownsRow.lt G2.out i hi).2) h34)
      have HY9 := Lib.hid (HY8.out.fr hf9 (fun i hi => (World.ownsRow.lt M2.out i hi).2) h67)
      clear ho9 hf9 htz hn9
      go_wp2_with fail
      refine (HR3.out _ _ HTZ9.out).mono ?_
      rintro e w10 ⟨so10, sc10, no10, nc10, rfl, r1, r2, hb10⟩
      obtain ⟨w11, hw11⟩ : ∃ w11, w10.alloc (.cells (a.cells (.slice so10 a.scr.length sc10) (.slice no10 a.nam.length nc10)) 27) = w11 := ⟨_, rfl⟩
      have hbx := Bx.of hw11 r1 r2
      have hb11 := bl_to hb10 hbx.2
      have HB11 := Lib.hid (bl_to HB9.out hb11)
      have HX11 := Lib.hid (HX9.out.to hb11)
      have HY11 := Lib.hid (HY9.out.to hb11)
      have HZ11 := Lib.hid hbx.1
      clear r1 r2 hb10 hbx hb11 HO1 HO3 HTZ6 HTZ9 HX5 HX6 HX8 HX9 HY8 HY9 K1 K2 M2 N2 G1 G2 H1 H2 H3 HT5 HT8 HTr HR1 HR2 HR3 HB3 HB5 HB6 HB8 HB9 hw hx1
      by_cases hc : c = 0
      · subst hc
        have HS1 := Lib.hid (rsame_any _ _ a a w11 HX11.out.ax HY11.out.ax (by omega) (by omega) (by omega) (by omega))
        rw [avB_self] at HS1
        obtain ⟨x0, x1, x2, x3, x4, x5, x6⟩ := cells7 HX11.out.blk
        obtain ⟨y0, y1, y2, y3, y4, y5, y6⟩ := cells7 HY11.out.blk
        clear HK
        go_wp2_with fail
        refine HS1.out.mono ?_
        rintro e w12 ⟨rfl, hb12⟩
        have HB12 := Lib.hid (bl_to HB11.out hb12)
        have HX12 := Lib.hid (HX11.out.to hb12)
        have HZ12 := Lib.hid (HZ11.out.to hb12)
        clear hb12 x0 x1 x2 x3 x4 x5 x6 y0 y1 y2 y3 y4 y5 y6
        have HS2 := Lib.hid (rsame_any _ _ a a w12 HX12.out.ax HZ12.out.ax (by omega) (by omega) (by omega) (by omega))
        rw [avB_self] at HS2
        obtain ⟨x0, x1, x2, x3, x4, x5, x6⟩ := cells7 HX12.out.blk
        obtain ⟨y0, y1, y2, y3, y4, y5, y6⟩ := cells7 HZ12.out.blk
        go_wp2_with fail
        refine HS2.out.mono ?_
        rintro e w13 ⟨rfl, hb13⟩
        have HB13 := Lib.hid (bl_to HB12.out hb13)
        clear hb13
        go_wp2_with fail
        go_ret
        exact ⟨rfl, HB13.out⟩
      · have hc1 : (c != 0) = true := by simpa using hc
        have hkk := HK.out hc
        have hwA := wrap_in ((k2 : Int) - (bs.length : Int)) (by omega) (by omega)
        have hwB := wrap_in ((k2 : Int) - (bs.length : Int) + 1) (by omega) (by omega)
        have heq : ((k1 : Int) == (k2 : Int) - (bs.length : Int) + 1) = true := by simp; omega
        clear hc hkk HK
        go_wp2_with fail
        go_ret
        exact ⟨rfl, HB11.out⟩
end Go.Proofs.Ytbigolappdlhcaa
