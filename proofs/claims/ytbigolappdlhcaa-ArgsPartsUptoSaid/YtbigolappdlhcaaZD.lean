/- A small command line is read and written. -/
import Derived.Test.YtbigolappdlhcaaZB
namespace Go.Proofs.Ytbigolappdlhcaa
set_option linter.unusedSimpArgs false
set_option linter.unusedVariables false
open Go.RowKit

/-- A row that the call lays. -/
theorem tz_block {w : World} {b : Nat} {l : List ByteArray} {n : Nat} (hn : n = l.length) (h : w.heap[b]? = some (.cells (l.map Value.string).toArray 9 (0, 0))) : Tz w (.slice (some ⟨b, 0, none⟩) n n) l := by
  subst hn
  refine ⟨⟨_, _, rfl, fun _ => ⟨b, 0, rfl, lt_of_block h, fun i hi => ?_⟩⟩, fun ao n c e => ?_⟩
  · refine (blk_at h (0 + i) ?_).1
    simp [hi]
  · simp only [Value.slice.injEq] at e; obtain ⟨rfl, rfl, rfl⟩ := e; exact ⟨Nat.le_refl _, fun e => by cases e⟩
theorem ax_own {w w' : World} {b : Nat} {a : Av} {sv nv : Value} (r1 : w.ownsRow b 45 2 sv a.scr.length (a.scr.flatMap pcells)) (r2 : w.ownsRow b 9 1 nv a.nam.length (a.nam.map Value.string)) (hb : Below w.heap.size w w') : Ax w' (a.val sv nv) a :=
  ⟨_, _, rfl, (Sx.ofOwn r1).to hb, (Tx.ofOwn r2).to hb⟩

def begA : Av := ⟨true, false, false, false, ⟨#[]⟩, [(false, ⟨#[112]⟩)], [⟨#[102]⟩]⟩
theorem beg_read : readL [⟨#[45, 110, 101]⟩, ⟨#[112]⟩, ⟨#[102]⟩] = (some begA, 0, 0) := by
  have h1 : readW [⟨#[45, 110, 101]⟩, ⟨#[112]⟩, ⟨#[102]⟩] 0 zeroAv = mapR 2 (readW [⟨#[102]⟩] 0 { begA with nam := [] }) := readW_val (by decide) (by rfl)
  have h2 : ∀ a, readW [⟨#[102]⟩] 0 a = .inr (0, a) := fun a => by rw [readW]; rfl
  unfold readL
  rw [h1, h2]
  rfl
theorem beg_print : printP begA = ([⟨#[45, 110]⟩, ⟨#[45, 101]⟩, ⟨#[112]⟩, ⟨#[45, 45]⟩, ⟨#[102]⟩], 0) := by rfl

set_option maxRecDepth 8000 in
set_option maxHeartbeats 3200000 in
theorem begins_any (w : World) : Calls Try.prog 23 #[] w fun e w' => e = .returned (.bool true) ∧ Below w.heap.size w w' := by
  have HX := Lib.hid (fun W x (hx : Tz W x [⟨#[45, 110, 101]⟩, ⟨#[112]⟩, ⟨#[102]⟩]) => read_is (a := begA) beg_read rfl hx (by decide))
  have HB0 := Lib.hid (bl_alloc w (.cells #[.string ⟨#[45, 110, 101]⟩, .string ⟨#[112]⟩, .string ⟨#[102]⟩] 9))
  have HT0 := Lib.hid (tz_block (n := 3) (l := [⟨#[45, 110, 101]⟩, ⟨#[112]⟩, ⟨#[102]⟩]) rfl (heap_alloc_new w (.cells #[.string ⟨#[45, 110, 101]⟩, .string ⟨#[112]⟩, .string ⟨#[102]⟩] 9)))
  go_enter Try.func23, Try.ntmps23
  go_wp2_with fail
  refine (HX.out _ _ HT0.out).mono ?_
  rintro e w2 ⟨so, sc, no, nc, rfl, r1, r2, hb2⟩
  have HB2 := Lib.hid (bl_to HB0.out hb2)
  obtain ⟨w3, hw3⟩ : ∃ w3, w2.alloc (.cells (begA.cells (.slice so begA.scr.length sc) (.slice no begA.nam.length nc)) 27) = w3 := ⟨_, rfl⟩
  have hbl := bl_alloc w2 (.cells (begA.cells (.slice so begA.scr.length sc) (.slice no begA.nam.length nc)) 27)
  have hg2 := heap_alloc_new w2 (.cells (begA.cells (.slice so begA.scr.length sc) (.slice no begA.nam.length nc)) 27)
  rw [hw3] at hbl hg2
  have HB3 := Lib.hid (bl_to HB2.out hbl)
  have HG := Lib.hid hg2
  have R1 := Lib.hid (row_to hbl r1)
  have R2 := Lib.hid (row_to hbl r2)
  obtain ⟨x0, x1, x2, x3, x4, x5, x6⟩ := cells7 hg2
  clear r1 r2 hb2 hbl hg2 HX HT0
  have HP := Lib.hid (print_any _ begA w3 _ _ rfl (Sx.ofOwn R1.out) (Tx.ofOwn R2.out) (own_nz R2.out) (by decide) (by decide))
  unfold PrintPost at HP
  rw [beg_print] at HP
  go_wp2_with fail
  refine HP.out.mono ?_
  rintro e w4 ⟨lv, rfl, ho4, hb4⟩
  obtain ⟨la, lc, rfl⟩ := row_slice ho4
  have hg4 := (hb4.block _ (lt_of_block HG.out)).trans HG.out
  have HB4 := Lib.hid (bl_to HB3.out hb4)
  have HO4 := Lib.hid ho4
  obtain ⟨_, _, e1, hc1⟩ := (Sx.ofOwn R1.out).to hb4
  simp only [Value.slice.injEq] at e1
  obtain ⟨rfl, hkill, rfl⟩ := e1
  clear hkill
  obtain ⟨b, off, rfl, hbl, hc⟩ := hc1 (by decide)
  have d0 : w4.cell? ⟨b, off + 1, none⟩ = some (.string ⟨#[112]⟩) := (hc 0 (by decide)).2
  have HB5 := Lib.hid (bl_alloc w4 (.cells #[.string ⟨#[45, 110]⟩, .string ⟨#[45, 101]⟩, .string ⟨#[112]⟩, .string ⟨#[45, 45]⟩, .string ⟨#[102]⟩] 9))
  have HT5 := Lib.hid (tz_block (n := 5) (l := [⟨#[45, 110]⟩, ⟨#[45, 101]⟩, ⟨#[112]⟩, ⟨#[45, 45]⟩, ⟨#[102]⟩]) rfl (heap_alloc_new w4 (.cells #[.string ⟨#[45, 110]⟩, .string ⟨#[45, 101]⟩, .string ⟨#[112]⟩, .string ⟨#[45, 45]⟩, .string ⟨#[102]⟩] 9)))
  have HT := Lib.hid (Texts_yes _ _ _ _ (Tx.ofOwn (HO4.out.to HB5.out)) HT5.out.tx (by decide))
  clear x0 x1 x2 x3 x4 x5 x6 hc hc1 hb4 ho4 HP
  obtain ⟨x0, -, -, -, -, x5, -⟩ := cells7 hg4
  replace x0 : w4.cell? ⟨w2.heap.size, 0, none⟩ = some (.bool true) := x0
  replace x5 : w4.cell? ⟨w2.heap.size, 5, none⟩ = some (.slice (some ⟨b, off, none⟩) 1 sc) := x5
  clear hg4
  go_wp2_with fail
  refine HT.out.mono ?_
  rintro e w6 ⟨rfl, hb6⟩
  have HB6 := Lib.hid (bl_to (bl_to HB4.out HB5.out) hb6)
  clear hb6
  go_wp2_with fail
  go_ret
  exact ⟨rfl, HB6.out⟩
end Go.Proofs.Ytbigolappdlhcaa
