/- The walk of ArgsReads. -/
import Derived.Test.YtbigolappdlhcaaZB
import Derived.Test.YtbigolappdlhcaaRG
namespace Go.Proofs.Ytbigolappdlhcaa
set_option linter.unusedSimpArgs false
set_option linter.unusedVariables false
open Go.RowKit

theorem rread_is {v : Value} {l : List ByteArray} {w : World} {a : Av} {c : Int} {k : Nat} {o : Option Av} (hR : readL l = (o, c, k)) (ha : o.getD zeroAv = a) (h : Tz w v l) (hsz : ∀ s ∈ l, s.size ≤ 140737488355328) : Calls Try.prog 22 #[v] w (RP w a c k) :=
  (rread_any v l w h (fun s hs => by have := hsz s hs; omega)).mono fun _ _ hp => RP.of hR ha hp

set_option maxRecDepth 8000 in
set_option maxHeartbeats 3200000 in
theorem reads_any (v : Value) (l : List ByteArray) (w : World) (h : Ls w v l) : Calls Try.prog 4 #[v] w fun e w' => e = .returned (.bool true) ∧ Below w.heap.size w w' := by
  obtain ⟨⟨o, c, k⟩, hR⟩ : ∃ x, readL l = x := ⟨_, rfl⟩
  obtain ⟨a, ha⟩ : ∃ a, o.getD zeroAv = a := ⟨_, rfl⟩
  have hlen := getD_len hR ha
  have hll := h.ln
  have HC := Lib.hid (copied_any v l w h)
  have HX := Lib.hid (fun W x (hx : Tz W x l) => read_is hR ha hx (fun s hs => by have := h.sz s hs; omega))
  have HY := Lib.hid (fun W x (hx : Tz W x l) => rread_is hR ha hx (fun s hs => by have := h.sz s hs; omega))
  have HL := Lib.hid h.tz
  obtain ⟨ao, cap, rfl, _⟩ := h.tz.tx
  clear hR ha h
  go_enter Try.func4, Try.ntmps4
  go_wp2_with fail
  refine HC.out.mono ?_
  rintro e w1 ⟨v1, rfl, ho1, hb1⟩
  obtain ⟨va, vc, rfl⟩ := row_slice ho1
  have HO1 := Lib.hid ho1
  have HB1 := Lib.hid hb1
  clear ho1 hb1
  go_wp2_with fail
  refine (HX.out _ _ (Tz.ofOwn HO1.out)).mono ?_
  rintro e w2 ⟨so, sc, no, nc, rfl, r1, r2, hb2⟩
  have HB2 := Lib.hid (bl_to HB1.out hb2)
  have HO2 := Lib.hid (HO1.out.to hb2)
  obtain ⟨w3, hw3⟩ : ∃ w3, w2.alloc (.cells (a.cells (.slice so a.scr.length sc) (.slice no a.nam.length nc)) 27) = w3 := ⟨_, rfl⟩
  have hbl := bl_alloc w2 (.cells (a.cells (.slice so a.scr.length sc) (.slice no a.nam.length nc)) 27)
  have hg2 := heap_alloc_new w2 (.cells (a.cells (.slice so a.scr.length sc) (.slice no a.nam.length nc)) 27)
  rw [hw3] at hbl hg2
  have HB3 := Lib.hid (bl_to HB2.out hbl)
  have HO3 := Lib.hid (HO2.out.to hbl)
  have HG := Lib.hid hg2
  have HA := Lib.hid (⟨_, _, rfl, (Sx.ofOwn r1).to hbl, (Tx.ofOwn r2).to hbl⟩ : Ax w3 (a.val (.slice so a.scr.length sc) (.slice no a.nam.length nc)) a)
  clear r1 r2 hb2 hbl hg2
  go_wp2_with fail
  refine (HY.out _ _ (HL.out.to HB3.out)).mono ?_
  rintro e w4 ⟨so', sc', no', nc', rfl, r1, r2, hb4⟩
  have HB4 := Lib.hid (bl_to HB3.out hb4)
  obtain ⟨w5, hw5⟩ : ∃ w5, w4.alloc (.cells (a.cells (.slice so' a.scr.length sc') (.slice no' a.nam.length nc')) 27) = w5 := ⟨_, rfl⟩
  have hbl := bl_alloc w4 (.cells (a.cells (.slice so' a.scr.length sc') (.slice no' a.nam.length nc')) 27)
  have hg5 := heap_alloc_new w4 (.cells (a.cells (.slice so' a.scr.length sc') (.slice no' a.nam.length nc')) 27)
  rw [hw5] at hbl hg5
  have hb5 := bl_to hb4 hbl
  have HB5 := Lib.hid (bl_to HB4.out hbl)
  have HO5 := Lib.hid (HO3.out.to hb5)
  have hga := (hb5.block _ (lt_of_block HG.out)).trans HG.out
  have HA5 := Lib.hid (Ax.to HA.out hb5)
  have HAY := Lib.hid (⟨_, _, rfl, (Sx.ofOwn r1).to hbl, (Tx.ofOwn r2).to hbl⟩ : Ax w5 (a.val (.slice so' a.scr.length sc') (.slice no' a.nam.length nc')) a)
  obtain ⟨x0, x1, x2, x3, x4, x5, x6⟩ := cells7 hga
  obtain ⟨y0, y1, y2, y3, y4, y5, y6⟩ := cells7 hg5
  have HS := Lib.hid (rsame_any _ _ a a w5 HA5.out HAY.out (by omega) (by omega) (by omega) (by omega))
  have HT := Lib.hid (fun W (hb : Below w5.heap.size w5 W) => Texts_yes _ _ l W (Tx.ofOwn (HO5.out.to hb)) (HL.out.to (bl_to HB5.out hb)).tx (by omega))
  simp only [avB_self] at HS
  clear hga hg5 hb5 hbl r1 r2 hb4
  go_wp2_with fail
  refine HS.out.mono ?_
  rintro e w6 ⟨rfl, hb6⟩
  have HB6 := Lib.hid hb6
  clear hb6
  go_wp2_with fail
  refine (HT.out _ HB6.out).mono ?_
  rintro e w7 ⟨rfl, hb7⟩
  have HB7 := Lib.hid (bl_to (bl_to HB5.out HB6.out) hb7)
  clear hb7
  go_wp2_with fail
  go_ret
  exact ⟨rfl, HB7.out⟩
end Go.Proofs.Ytbigolappdlhcaa
