/- The walk of ArgsPrints. -/
import Derived.Test.YtbigolappdlhcaaL
namespace Go.Proofs.Ytbigolappdlhcaa
set_option linter.unusedSimpArgs false
set_option linter.unusedVariables false
open Go.RowKit

/-- What is known of a command line that came in. -/
structure Arg (w : World) (v : Value) (a : Av) : Prop where
  ax : ∃ sv nv, v = a.val sv nv ∧ Sx w sv a.scr ∧ Tx w nv a.nam ∧ Nz nv
  l1 : a.scr.length * 24 ≤ 140737488355000
  l2 : a.nam.length * 16 ≤ 140737488355000

theorem own_nz {b0 sz n : Nat} {e : TypeId} {w : World} {v : Value} {xs : List Value} (hr : w.ownsRow b0 e sz v n xs) : Nz v := by
  rcases hr.2 with ⟨rfl, rfl⟩ | ⟨g, cap, cur, rfl, hb, hgg, hle, rest⟩
  · intro n cap h; simp only [Value.slice.injEq] at h; exact h.2.2.symm
  · intro n cap h; simp at h

theorem printP_le (a : Av) : (printP a).1.length ≤ 65536 := by
  unfold printP
  by_cases h : rightB a = false
  · rw [if_pos h]; simp
  · rw [if_neg h]
    by_cases h2 : 65536 < (printL a).length
    · rw [if_pos h2]; simp
    · rw [if_neg h2]; show (printL a).length ≤ 65536; omega

/-- What the worlds of the last statement keep. -/
def KP (W0 w' : World) : Prop := Below W0.heap.size W0 w'
theorem KP.cells {W0 w' : World} (h : KP W0 w') : ∀ b o, b < W0.heap.size → w'.cell? ⟨b, o, none⟩ = W0.cell? ⟨b, o, none⟩ := fun b o hb => h.cell (p := ⟨b, o, none⟩) hb

theorem cells7 {w : World} {b : Nat} {a : Av} {sv nv : Value} (h : w.heap[b]? = some (.cells (a.cells sv nv) 27 (0, 0))) :
    w.cell? ⟨b, 0, none⟩ = some (.bool a.q) ∧ w.cell? ⟨b, 1, none⟩ = some (.bool a.e) ∧ w.cell? ⟨b, 2, none⟩ = some (.bool a.s) ∧ w.cell? ⟨b, 3, none⟩ = some (.bool a.i) ∧ w.cell? ⟨b, 4, none⟩ = some (.string a.suf) ∧ w.cell? ⟨b, 5, none⟩ = some sv ∧ w.cell? ⟨b, 6, none⟩ = some nv :=
  ⟨(blk_at h 0 rfl).1, (blk_at h 1 rfl).1, (blk_at h 2 rfl).1, (blk_at h 3 rfl).1, (blk_at h 4 rfl).1, (blk_at h 5 rfl).1, (blk_at h 6 rfl).1⟩

set_option maxRecDepth 8000 in
set_option maxHeartbeats 6400000 in
theorem prints_any (u v : Value) (x y : Av) (w : World) (hx : Arg w u x) (hy : Arg w v y) : Calls Try.prog 3 #[u, v] w fun e w' => e = .returned (.bool true) ∧ Below w.heap.size w w' := by
  obtain ⟨⟨sv, nv, rfl, hs, hn, hz⟩, l1, l2⟩ := hx
  obtain ⟨⟨tv, mv, rfl, ht, hm, hz2⟩, k1, k2⟩ := hy
  have HW : Hid (Below w.heap.size w ((w.alloc (.cells (x.cells sv nv) 27)).alloc (.cells (y.cells tv mv) 27))) := bl_to (bl_alloc w _) (bl_alloc _ _)
  have HX : Hid (((w.alloc (.cells (x.cells sv nv) 27)).alloc (.cells (y.cells tv mv) 27)).heap[w.heap.size]? = some (.cells (x.cells sv nv) 27 (0, 0))) := by
    show _ = _
    rw [heap_alloc_old _ _ (by simp)]; exact heap_alloc_new w _
  have HY : Hid (((w.alloc (.cells (x.cells sv nv) 27)).alloc (.cells (y.cells tv mv) 27)).heap[w.heap.size + 1]? = some (.cells (y.cells tv mv) 27 (0, 0))) := by
    show _ = _
    have := heap_alloc_new (w.alloc (.cells (x.cells sv nv) 27)) (.cells (y.cells tv mv) 27)
    simpa using this
  obtain ⟨ao, cap, rfl, _⟩ := id hs
  obtain ⟨ao', cap', rfl, _⟩ := id hn
  obtain ⟨bo, bcap, rfl, _⟩ := id ht
  obtain ⟨bo', bcap', rfl, _⟩ := id hm
  have HAX := Lib.hid (fun W (hb : Below w.heap.size w W) => (⟨_, _, rfl, hs.to hb, hn.to hb⟩ : Ax W (x.val (.slice ao x.scr.length cap) (.slice ao' x.nam.length cap')) x))
  have HAY := Lib.hid (fun W (hb : Below w.heap.size w W) => (⟨_, _, rfl, ht.to hb, hm.to hb⟩ : Ax W (y.val (.slice bo y.scr.length bcap) (.slice bo' y.nam.length bcap')) y))
  have HRP := Lib.hid (fun W (hb : Below w.heap.size w W) => rprint_any _ x W _ _ rfl (hs.to hb) (hn.to hb) hz (by omega) (by omega))
  have HCP := Lib.hid (fun W (hb : Below w.heap.size w W) => copy_any _ x W ⟨_, _, rfl, hs.to hb, hn.to hb⟩ (by omega) (by omega))
  clear hs hn ht hm hz hz2
  go_enter Try.func3, Try.ntmps3
  go_wp2_with fail
  refine (HCP.out _ HW.out).mono ?_
  rintro e w1 ⟨gs, gn, rfl, r1, r2, hb1⟩
  obtain ⟨ga, gc, rfl⟩ := row_slice r1
  obtain ⟨na, nc, rfl⟩ := row_slice r2
  have hx1 := (hb1.block _ (lt_of_block HX.out)).trans HX.out
  have hy1 := (hb1.block _ (lt_of_block HY.out)).trans HY.out
  have hw1 := bl_to HW.out hb1
  obtain ⟨w2, hw2⟩ : ∃ w2, w1.alloc (.cells (x.cells (.slice ga x.scr.length gc) (.slice na x.nam.length nc)) 27) = w2 := ⟨_, rfl⟩
  have hbl := bl_alloc w1 (.cells (x.cells (.slice ga x.scr.length gc) (.slice na x.nam.length nc)) 27)
  have hg2 := heap_alloc_new w1 (.cells (x.cells (.slice ga x.scr.length gc) (.slice na x.nam.length nc)) 27)
  rw [hw2] at hbl hg2
  have HW2 := Lib.hid (bl_to hw1 hbl)
  have HX2 := Lib.hid ((hbl.block _ (lt_of_block hx1)).trans hx1)
  have HY2 := Lib.hid ((hbl.block _ (lt_of_block hy1)).trans hy1)
  have HG2 := Lib.hid hg2
  have HSG := Lib.hid ((Sx.ofOwn r1).to hbl)
  have HNG := Lib.hid ((Tx.ofOwn r2).to hbl)
  have HZG := Lib.hid (own_nz r2)
  clear r1 r2 hb1 hx1 hy1 hw1 hbl hg2
  obtain ⟨g0, g1, g2, g3, g4, g5, g6⟩ := cells7 HG2.out
  obtain ⟨x0, x1, x2, x3, x4, x5, x6⟩ := cells7 HX2.out
  go_wp2_with fail
  clear hw2
  refine (print_any _ x _ _ _ rfl HSG.out HNG.out HZG.out (by omega) (by omega)).mono ?_
  rintro e3 w3 ⟨lv, rfl, ho3, hb3⟩
  have hx3 := (hb3.block _ (lt_of_block HX2.out)).trans HX2.out
  have HB3 := Lib.hid hb3
  have HO3 := Lib.hid ho3
  have HW3 := Lib.hid (bl_to HW2.out hb3)
  obtain ⟨la, lc, rfl⟩ := row_slice ho3
  clear g0 g1 g2 g3 g4 g5 g6 x0 x1 x2 x3 x4 x5 x6 hb3 ho3
  obtain ⟨x0, x1, x2, x3, x4, x5, x6⟩ := cells7 hx3
  clear hx3
  go_wp2_with fail
  refine (HRP.out _ HW3.out).mono ?_
  rintro e4 w4 ⟨mv4, rfl, ho4, hb4⟩
  have hb24 := bl_to HB3.out hb4
  have hx4 := (hb24.block _ (lt_of_block HX2.out)).trans HX2.out
  have hy4 := (hb24.block _ (lt_of_block HY2.out)).trans HY2.out
  have hg4 := (hb24.block _ (lt_of_block HG2.out)).trans HG2.out
  have HO4 := Lib.hid ho4
  have HO3' := Lib.hid (HO3.out.to hb4)
  have HW4 := Lib.hid (bl_to HW3.out hb4)
  have HAG := Lib.hid (fun W (hb : Below w4.heap.size w4 W) => (⟨_, _, rfl, (HSG.out.to hb24).to hb, (HNG.out.to hb24).to hb⟩ : Ax W (x.val (.slice ga x.scr.length gc) (.slice na x.nam.length nc)) x))
  obtain ⟨ma, mc, rfl⟩ := row_slice ho4
  clear x0 x1 x2 x3 x4 x5 x6 hb4 ho4 hb24
  obtain ⟨x0, x1, x2, x3, x4, x5, x6⟩ := cells7 hx4
  obtain ⟨y0, y1, y2, y3, y4, y5, y6⟩ := cells7 hy4
  obtain ⟨g0, g1, g2, g3, g4, g5, g6⟩ := cells7 hg4
  have q1 := lt_of_block hx4
  have q2 := lt_of_block hy4
  have q3 := lt_of_block hg4
  clear hx4 hy4 hg4
  have HC15 := Lib.hid (fun W (hb : Below w4.heap.size w4 W) => right_any _ x W (HAG.out W hb))
  have HC16 := Lib.hid (fun W (hb : Below w4.heap.size w4 W) => rright_any _ x W (HAX.out W (bl_to HW4.out hb)))
  have HC17 := Lib.hid (fun W (hb : Below w4.heap.size w4 W) => Texts_yes _ _ (printP x).1 W (Tx.ofOwn (HO3'.out.to hb)) (Tx.ofOwn (HO4.out.to hb)) (by have := printP_le x; omega))
  have HC18 := Lib.hid (fun W (hb : Below w4.heap.size w4 W) => same_any _ _ x y W (HAG.out W hb) (HAY.out W (bl_to HW4.out hb)) (by omega) (by omega) (by omega) (by omega))
  have HC19 := Lib.hid (fun W (hb : Below w4.heap.size w4 W) => rsame_any _ _ x y W (HAX.out W (bl_to HW4.out hb)) (HAY.out W (bl_to HW4.out hb)) (by omega) (by omega) (by omega) (by omega))
  have HC18x := Lib.hid (fun W (hb : Below w4.heap.size w4 W) => same_any _ _ x x W (HAG.out W hb) (HAX.out W (bl_to HW4.out hb)) (by omega) (by omega) (by omega) (by omega))
  have HC19x := Lib.hid (fun W (hb : Below w4.heap.size w4 W) => rsame_any _ _ x x W (HAG.out W hb) (HAX.out W (bl_to HW4.out hb)) (by omega) (by omega) (by omega) (by omega))
  simp only [avB_self] at HC18x HC19x
  go_wp2_with fail
  have bk : Below w4.heap.size w4 w4 := Below.refl _ _
  go_region_held3 (fun w' => Below w4.heap.size w4 w' ∧ ∀ b o, b < w4.heap.size → w'.cell? ⟨b, o, none⟩ = w4.cell? ⟨b, o, none⟩)
    (first | exact ⟨bk, KP.cells bk⟩ | exact ⟨bk.drew, KP.cells bk.drew⟩)
    (first
      | (go_at_call 15; refine (HC15.out _ (by first | exact bk | exact bk.drew)).mono ?_; rintro e w5 ⟨rfl, hb5⟩; replace bk := bl_to (by first | exact bk | exact bk.drew) hb5; clear hb5)
      | (go_at_call 16; refine (HC16.out _ (by first | exact bk | exact bk.drew)).mono ?_; rintro e w5 ⟨rfl, hb5⟩; replace bk := bl_to (by first | exact bk | exact bk.drew) hb5; clear hb5)
      | (go_at_call 17; refine (HC17.out _ (by first | exact bk | exact bk.drew)).mono ?_; rintro e w5 ⟨rfl, hb5⟩; replace bk := bl_to (by first | exact bk | exact bk.drew) hb5; clear hb5)
      | (go_at_call 18; (with_reducible refine (HC18.out _ (by first | exact bk | exact bk.drew)).mono ?_); rintro e w5 ⟨rfl, hb5⟩; replace bk := bl_to (by first | exact bk | exact bk.drew) hb5; clear hb5)
      | (go_at_call 18; (with_reducible refine (HC18x.out _ (by first | exact bk | exact bk.drew)).mono ?_); rintro e w5 ⟨rfl, hb5⟩; replace bk := bl_to (by first | exact bk | exact bk.drew) hb5; clear hb5)
      | (go_at_call 19; (with_reducible refine (HC19.out _ (by first | exact bk | exact bk.drew)).mono ?_); rintro e w5 ⟨rfl, hb5⟩; replace bk := bl_to (by first | exact bk | exact bk.drew) hb5; clear hb5)
      | (go_at_call 19; (with_reducible refine (HC19x.out _ (by first | exact bk | exact bk.drew)).mono ?_); rintro e w5 ⟨rfl, hb5⟩; replace bk := bl_to (by first | exact bk | exact bk.drew) hb5; clear hb5))
  all_goals
    go_wp2_with fail
    go_ret
    exact ⟨ret_bool (by simp), HW4.out.trans (bk.mono (HW4.out.size))⟩
end Go.Proofs.Ytbigolappdlhcaa
