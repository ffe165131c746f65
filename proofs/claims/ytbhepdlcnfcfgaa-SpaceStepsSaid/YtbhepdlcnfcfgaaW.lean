/- like. -/
import Derived.Test.YtbhepdlcnfcfgaaV
import Derived.Test.YtbhepdlcnfcfgaaU
import Derived.Deep.RegionHeld3
namespace Go.Proofs.Ytbhepdlcnfcfgaa
set_option linter.unusedSimpArgs false
set_option linter.unusedVariables false
open Go.RowKit

theorem S_next4 {w0 W w1 : World} {b : Nat} {v0 v1 v2 v3 : Value} (h : W.cell? ⟨b, 0, none⟩ = some v0 ∧ W.cell? ⟨b, 1, none⟩ = some v1 ∧ W.cell? ⟨b, 2, none⟩ = some v2 ∧ W.cell? ⟨b, 3, none⟩ = some v3 ∧ Below w0.heap.size w0 W) (hb : Below W.heap.size W w1) :
    w1.cell? ⟨b, 0, none⟩ = some v0 ∧ w1.cell? ⟨b, 1, none⟩ = some v1 ∧ w1.cell? ⟨b, 2, none⟩ = some v2 ∧ w1.cell? ⟨b, 3, none⟩ = some v3 ∧ Below w0.heap.size w0 w1 :=
  ⟨bl_cell hb h.1, bl_cell hb h.2.1, bl_cell hb h.2.2.1, bl_cell hb h.2.2.2.1, bl_to h.2.2.2.2 hb⟩
theorem S_drew4 {W w0 : World} {b : Nat} {v0 v1 v2 v3 : Value} (h : (W.cell? ⟨b, 0, none⟩ = some v0 ∧ W.cell? ⟨b, 1, none⟩ = some v1 ∧ W.cell? ⟨b, 2, none⟩ = some v2 ∧ W.cell? ⟨b, 3, none⟩ = some v3)) (hb : Below w0.heap.size w0 W) :
    W.drew.cell? ⟨b, 0, none⟩ = some v0 ∧ W.drew.cell? ⟨b, 1, none⟩ = some v1 ∧ W.drew.cell? ⟨b, 2, none⟩ = some v2 ∧ W.drew.cell? ⟨b, 3, none⟩ = some v3 ∧ Below w0.heap.size w0 W.drew := ⟨h.1, h.2.1, h.2.2.1, h.2.2.2, hb.drew⟩
theorem S_bel {W w0 : World} {b : Nat} {v0 v1 v2 v3 : Value} (h : W.cell? ⟨b, 0, none⟩ = some v0 ∧ W.cell? ⟨b, 1, none⟩ = some v1 ∧ W.cell? ⟨b, 2, none⟩ = some v2 ∧ W.cell? ⟨b, 3, none⟩ = some v3 ∧ Below w0.heap.size w0 W) : Below w0.heap.size w0 W := h.2.2.2.2

set_option maxHeartbeats 12800000 in
theorem like_any (B : Nat) (p h : ByteArray) (q rq : Value) (k : Int) (l : List It) (w : World) (s : St w B B p h q k l) (hr : Qu w B rq l) (hl : l.length ≤ 4611686018427387904) :
    Calls Try.prog 29 #[.pointer (some ⟨B, 0, none⟩), refVal p h rq k] w fun e w' => e = .returned (.bool true) ∧ Below w.heap.size w w' := by
  have HS := Lib.hid s
  have HR := Lib.hid hr
  obtain ⟨ao, cap, rfl, _⟩ := hr.its.shape
  have HN := Lib.hid (heap_alloc_new w (.cells #[.string p, .string h, .slice ao l.length cap, .int .i64 k] 54))
  have hp : p.size ≤ 4611686018427387904 := by have := s.inv; have := s.kle; omega
  have hsum : p.size + h.size + tot l ≤ 4611686018427387904 := by have := s.inv; have := s.kle; omega
  clear s hr
  go_enter Try.func29, Try.ntmps29
  go_wp2_with fail
  refine (First_st B B p h q k l _ (HS.out.to (bl_alloc w _))).mono ?_
  rintro e w1 ⟨rfl, hb1⟩
  obtain ⟨⟨c0, c1, c2, c3⟩, _⟩ := blk4 hb1 HN.out
  have hB1 := bl_to (bl_alloc w _) hb1
  clear hb1 HN
  go_wp2_with fail
  refine (First_ref p _ hp).mono ?_
  rintro e w' ⟨rfl, rfl⟩
  go_wp2_with fail
  have H0 := S_drew4 ⟨c0, c1, c2, c3⟩ hB1
  go_region_held3 (fun w' => w'.cell? ⟨w.heap.size, 0, none⟩ = some (.string p) ∧ w'.cell? ⟨w.heap.size, 1, none⟩ = some (.string h) ∧ w'.cell? ⟨w.heap.size, 2, none⟩ = some (.slice ao l.length cap) ∧ w'.cell? ⟨w.heap.size, 3, none⟩ = some (.int .i64 k) ∧ Below w.heap.size w w') (first | assumption | exact S_next4 (by assumption) hbx)
    (first
      | (go_at_call 16; (refine (Pattern_any B p h q k _ (bl_sp (S_bel (by assumption)) HS.out.sp)).mono ?_); rintro e w' ⟨rfl, rfl⟩)
      | (go_at_call 15; (refine (Hold_any B p h q k _ (bl_sp (S_bel (by assumption)) HS.out.sp)).mono ?_); rintro e w' ⟨rfl, rfl⟩)
      | (go_at_call 20; (refine (Queue_st B B p h q k l _ (HS.out.to (S_bel (by assumption)))).mono ?_); rintro e wq ⟨qv, rfl, hqv, hbx⟩)
      | (go_at_call 21; (refine (Same_yes _ _ l _ hqv.its (bl_qu (S_bel (by assumption)) HR.out).its hl).mono ?_); rintro e ws ⟨rfl, hbx⟩)
      | (go_at_call 19; (refine (Used_any B B p h q k l _ (bl_sp (S_bel (by assumption)) HS.out.sp) (bl_qu (S_bel (by assumption)) HS.out.qu) hsum hl).mono ?_); rintro e wu ⟨rfl, hbx⟩)
      | (go_at_call 44; (refine (Used_ref p h _ k l _ (bl_qu (S_bel (by assumption)) HR.out).its hsum hl).mono ?_); rintro e wv ⟨rfl, hbx⟩))
  all_goals
    have hfin := S_bel (by assumption)
    go_wp2
    go_ret
    exact ⟨rfl, hfin⟩

end Go.Proofs.Ytbhepdlcnfcfgaa
