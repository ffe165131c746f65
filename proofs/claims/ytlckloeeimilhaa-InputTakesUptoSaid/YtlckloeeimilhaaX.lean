/- same. -/
import Derived.Test.YtlckloeeimilhaaV
namespace Go.Proofs.Ytlckloeeimilhaa
set_option linter.unusedSimpArgs false
set_option linter.unusedVariables false
open Go.RowKit

/-- The input tells what b says. -/
structure SameB (x : IS) (b : BS) : Prop where
  last : (decide (0 < x.taken) && (!x.has || (x.sep && (x.ni != x.ci)))) = b.last
  num : (if x.taken = 0 then 0 else if x.sep then x.cn else (x.taken : Int)) = (b.num : Int)
  at_ : (if x.taken = 0 then 0 else x.ci) = (b.at_ : Int)
  fresh : (decide (0 < x.taken) && x.fresh) = b.fresh
  passed : x.passed = b.passed
  data : (if x.taken = 0 then ⟨#[]⟩ else x.nowd) = b.data
  err : x.err = b.err

theorem kp_cells {W0 w' : World} (h : Below W0.heap.size W0 w') : ∀ b o, b < W0.heap.size → w'.cell? ⟨b, o, none⟩ = W0.cell? ⟨b, o, none⟩ := fun b o hb => h.cell (p := ⟨b, o, none⟩) hb

set_option maxRecDepth 8000 in
set_option maxHeartbeats 6400000 in
theorem same_any {base X S : Nat} {lv : Value} {x : IS} {w : World} (hx : Inp w base X S lv x) (b : BS) (hb : SameB x b) :
    Calls Try.prog 23 #[.pointer (some ⟨X, 0, none⟩), b.val] w fun e w' => e = .returned (.bool true) ∧ Below w.heap.size w w' := by
  obtain ⟨w1, hw1⟩ : ∃ w1, w.alloc (.cells b.cells 48) = w1 := ⟨_, rfl⟩
  have hbl : Below w.heap.size w w1 := by rw [← hw1]; exact bl_alloc _ _
  have hbx : XB w1 w.heap.size b := by rw [← hw1]; exact heap_alloc_new _ _
  have h1 := hx.to hbl
  have C14 := Lib.hid (fun W (hW : Below w1.heap.size w1 W) => Last_any (h1.to hW))
  have C11 := Lib.hid (fun W (hW : Below w1.heap.size w1 W) => Number_any (h1.to hW))
  have C10 := Lib.hid (fun W (hW : Below w1.heap.size w1 W) => At_any (h1.to hW))
  have C12 := Lib.hid (fun W (hW : Below w1.heap.size w1 W) => Fresh_any (h1.to hW))
  have C17 := Lib.hid (fun W (hW : Below w1.heap.size w1 W) => Passed_any (h1.to hW))
  have C13 := Lib.hid (fun W (hW : Below w1.heap.size w1 W) => Data_any (h1.to hW))
  have C21 := Lib.hid (fun W (hW : Below w1.heap.size w1 W) => Err_any (h1.to hW))
  rw [hb.last] at C14
  rw [hb.num] at C11
  rw [hb.at_] at C10
  rw [hb.fresh] at C12
  rw [hb.passed] at C17
  rw [hb.data] at C13
  rw [hb.err] at C21
  obtain ⟨y0, -⟩ := blk_at hbx 0 rfl
  obtain ⟨y1, -⟩ := blk_at hbx 1 rfl
  obtain ⟨y2, -⟩ := blk_at hbx 2 rfl
  obtain ⟨y3, -⟩ := blk_at hbx 3 rfl
  obtain ⟨y4, -⟩ := blk_at hbx 4 rfl
  obtain ⟨y5, -⟩ := blk_at hbx 5 rfl
  obtain ⟨y6, -⟩ := blk_at hbx 6 rfl
  have hlt := lt_of_block hbx
  have HBL := Lib.hid hbl
  clear hbx h1 hx hb hbl
  go_enter Try.func23, Try.ntmps23
  go_wp2_with fail
  clear hw1
  have bk : Below w1.heap.size w1 w1 := Below.refl _ _
  go_region_held3 (fun w' => Below w1.heap.size w1 w' ∧ ∀ b o, b < w1.heap.size → w'.cell? ⟨b, o, none⟩ = w1.cell? ⟨b, o, none⟩)
    (first | exact ⟨bk, kp_cells bk⟩ | exact ⟨bk.drew, kp_cells bk.drew⟩)
    (first
      | (go_at_call 14; refine (C14.out _ (by first | exact bk | exact bk.drew)).mono ?_; rintro e w5 ⟨rfl, hb5⟩; replace bk := bl_to (by first | exact bk | exact bk.drew) hb5; clear hb5)
      | (go_at_call 11; refine (C11.out _ (by first | exact bk | exact bk.drew)).mono ?_; rintro e w5 ⟨rfl, rfl⟩)
      | (go_at_call 10; refine (C10.out _ (by first | exact bk | exact bk.drew)).mono ?_; rintro e w5 ⟨rfl, rfl⟩)
      | (go_at_call 12; refine (C12.out _ (by first | exact bk | exact bk.drew)).mono ?_; rintro e w5 ⟨rfl, rfl⟩)
      | (go_at_call 17; refine (C17.out _ (by first | exact bk | exact bk.drew)).mono ?_; rintro e w5 ⟨rfl, rfl⟩)
      | (go_at_call 13; refine (C13.out _ (by first | exact bk | exact bk.drew)).mono ?_; rintro e w5 ⟨rfl, rfl⟩)
      | (go_at_call 21; refine (C21.out _ (by first | exact bk | exact bk.drew)).mono ?_; rintro e w5 ⟨rfl, rfl⟩))
  all_goals
    go_wp2_with fail
    go_ret
    exact ⟨ret_bool (by simp), HBL.out.trans (bk.mono HBL.out.size)⟩
end Go.Proofs.Ytlckloeeimilhaa
