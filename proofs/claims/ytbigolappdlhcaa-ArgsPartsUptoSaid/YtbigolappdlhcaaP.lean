/- find. -/
import Derived.Test.YtbigolappdlhcaaO
namespace Go.Proofs.Ytbigolappdlhcaa
set_option linter.unusedSimpArgs false
set_option linter.unusedVariables false
open Go.RowKit

def findV (h : Nat) : Option Nat → Value
  | some k => optV h k
  | none => .agg #[.string ⟨#[]⟩, .slice none 0 0, .bool false, .bool false, .nilFunc]
def FindPost (p : Nat → Bool) (w : World) (e : Ending) (w' : World) : Prop := ∃ h, e = .returned (.tuple #[findV h (optOf p), .bool (optOf p).isSome]) ∧ Below w.heap.size w w'

set_option maxRecDepth 8000 in
set_option maxHeartbeats 6400000 in
theorem find_any (F : Nat) (caps : Array Value) (p : Nat → Bool) (w : World) (hcf : ∀ args w, (callFunc F args).run Try.prog w = .ok (.enter F args) w)
    (H : ∀ h k, k < 6 → ∀ w1, Below w.heap.size w w1 → OptN w1 h → Calls Try.prog F (#[optV h k] ++ caps) w1 fun e w' => e = .returned (.bool (p k)) ∧ Below w1.heap.size w1 w') :
    Calls Try.prog 45 #[.func (.func F) #[] caps] w (FindPost p w) := by
  have HW := Lib.hid (bl_alloc w (.cells #[.string ⟨#[]⟩, .slice none 0 0, .bool false, .bool false, .nilFunc] 73))
  have HZ : Hid ((w.alloc (.cells #[.string ⟨#[]⟩, .slice none 0 0, .bool false, .bool false, .nilFunc] 73)).heap[w.heap.size]? = some (.cells #[.string ⟨#[]⟩, .slice none 0 0, .bool false, .bool false, .nilFunc] 73 (0, 0))) := heap_alloc_new w _
  have HH := Lib.hid H
  clear H
  go_enter Try.func45, Try.ntmps45
  go_wp2_with fail
  generalize (w.alloc (.cells #[.string ⟨#[]⟩, .slice none 0 0, .bool false, .bool false, .nilFunc] 73)) = w0 at *
  refine (options_any w0).mono ?_
  rintro e w1 ⟨rfl, hn, hg, hb1⟩
  have HN := Lib.hid hn
  have HG := Lib.hid hg
  have HB1 := Lib.hid hb1
  have HW1 := Lib.hid (bl_to HW.out hb1)
  clear hn hg hb1
  go_wp2_with fail
  refine (idxf_any F caps p w0.heap.size _ w1 hcf HG.out (fun k hk W hb => HH.out w0.heap.size k hk W (bl_to HW1.out hb) (HN.out.to hb))).mono ?_
  rintro e w2 ⟨rfl, hb2⟩
  have HB2 := Lib.hid hb2
  have HW2 := Lib.hid (bl_to HW1.out hb2)
  have hg2 := (hb2.block _ (lt_of_block HG.out)).trans HG.out
  have hz2 := (hb2.block _ (Nat.lt_of_lt_of_le (lt_of_block HZ.out) HB1.out.size)).trans ((HB1.out.block _ (lt_of_block HZ.out)).trans HZ.out)
  obtain ⟨z0, f0⟩ := blk_at hz2 0 (v := .string ⟨#[]⟩) rfl
  obtain ⟨z1, f1⟩ := blk_at hz2 1 (v := .slice none 0 0) rfl
  obtain ⟨z2, f2⟩ := blk_at hz2 2 (v := .bool false) rfl
  obtain ⟨z3, f3⟩ := blk_at hz2 3 (v := .bool false) rfl
  obtain ⟨z4, f4⟩ := blk_at hz2 4 (v := .nilFunc) rfl
  have HFR : Hid (∀ (a b c d f : Value), Below w.heap.size w (((((w2.setCell ⟨w.heap.size, 0, none⟩ a).setCell ⟨w.heap.size, 1, none⟩ b).setCell ⟨w.heap.size, 2, none⟩ c).setCell ⟨w.heap.size, 3, none⟩ d).setCell ⟨w.heap.size, 4, none⟩ f)) := fun a b c d f => ((((HW2.out.setCell (Nat.le_refl _) a).setCell (Nat.le_refl _) b).setCell (Nat.le_refl _) c).setCell (Nat.le_refl _) d).setCell (Nat.le_refl _) f
  clear hb2 hz2
  obtain ⟨o, ho⟩ : ∃ o, optOf p = o := ⟨_, rfl⟩
  have HO := Lib.hid ho
  have HLT : Hid (∀ k, o = some k → k < 6) := fun k hk => (optOf_lt (by rw [ho, hk])).1
  rw [ho]
  clear ho
  cases o with
  | none =>
    clear hg2
    go_wp2_with fail
    refine bodyPost_ret (v := .tuple #[.agg #[.string ⟨#[]⟩, .slice none 0 0, .bool false, .bool false, .nilFunc], .bool false]) (by simp [results, Try.results45, go_sem, z0, z1, z2, z3, z4]) rfl ?_
    exact ⟨0, by rw [HO.out]; rfl, HFR.out _ _ _ _ _⟩
  | some k =>
    have hk := HLT.out k rfl
    rcases (show k = 0 ∨ k = 1 ∨ k = 2 ∨ k = 3 ∨ k = 4 ∨ k = 5 by omega) with rfl | rfl | rfl | rfl | rfl | rfl
    · have a0 := (blk_at hg2 0 (v := .string ⟨#[110]⟩) rfl).1
      have a1 := (blk_at hg2 1 (v := .slice (some ⟨w0.heap.size, 0, none⟩) 2 2) rfl).1
      have a2 := (blk_at hg2 2 (v := .bool false) rfl).1
      have a3 := (blk_at hg2 3 (v := .bool false) rfl).1
      have a4 := (blk_at hg2 4 (v := .func (.func 68) #[] #[]) rfl).1
      clear hg2
      simp only [idxOf]
      go_wp2_with fail
      refine bodyPost_ret (v := .tuple #[.agg #[.string ⟨#[110]⟩, .slice (some ⟨w0.heap.size, 0, none⟩) 2 2, .bool false, .bool false, .func (.func 68) #[] #[]], .bool true]) (by simp [results, Try.results45, go_sem, z0, z1, z2, z3, z4]) rfl ?_
      exact ⟨w0.heap.size, by rw [HO.out]; rfl, HFR.out _ _ _ _ _⟩
    · have a0 := (blk_at hg2 5 (v := .string ⟨#[69, 114]⟩) rfl).1
      have a1 := (blk_at hg2 6 (v := .slice (some ⟨w0.heap.size + 1, 0, none⟩) 1 1) rfl).1
      have a2 := (blk_at hg2 7 (v := .bool false) rfl).1
      have a3 := (blk_at hg2 8 (v := .bool false) rfl).1
      have a4 := (blk_at hg2 9 (v := .func (.func 69) #[] #[]) rfl).1
      clear hg2
      simp only [idxOf]
      go_wp2_with fail
      refine bodyPost_ret (v := .tuple #[.agg #[.string ⟨#[69, 114]⟩, .slice (some ⟨w0.heap.size + 1, 0, none⟩) 1 1, .bool false, .bool false, .func (.func 69) #[] #[]], .bool true]) (by simp [results, Try.results45, go_sem, z0, z1, z2, z3, z4]) rfl ?_
      exact ⟨w0.heap.size, by rw [HO.out]; rfl, HFR.out _ _ _ _ _⟩
    · have a0 := (blk_at hg2 10 (v := .string ⟨#[115]⟩) rfl).1
      have a1 := (blk_at hg2 11 (v := .slice (some ⟨w0.heap.size + 1 + 1, 0, none⟩) 1 1) rfl).1
      have a2 := (blk_at hg2 12 (v := .bool false) rfl).1
      have a3 := (blk_at hg2 13 (v := .bool false) rfl).1
      have a4 := (blk_at hg2 14 (v := .func (.func 70) #[] #[]) rfl).1
      clear hg2
      simp only [idxOf]
      go_wp2_with fail
      refine bodyPost_ret (v := .tuple #[.agg #[.string ⟨#[115]⟩, .slice (some ⟨w0.heap.size + 1 + 1, 0, none⟩) 1 1, .bool false, .bool false, .func (.func 70) #[] #[]], .bool true]) (by simp [results, Try.results45, go_sem, z0, z1, z2, z3, z4]) rfl ?_
      exact ⟨w0.heap.size, by rw [HO.out]; rfl, HFR.out _ _ _ _ _⟩
    · have a0 := (blk_at hg2 15 (v := .string ⟨#[101]⟩) rfl).1
      have a1 := (blk_at hg2 16 (v := .slice (some ⟨w0.heap.size + 1 + 1 + 1, 0, none⟩) 1 1) rfl).1
      have a2 := (blk_at hg2 17 (v := .bool true) rfl).1
      have a3 := (blk_at hg2 18 (v := .bool false) rfl).1
      have a4 := (blk_at hg2 19 (v := .func (.func 71) #[] #[]) rfl).1
      clear hg2
      simp only [idxOf]
      go_wp2_with fail
      refine bodyPost_ret (v := .tuple #[.agg #[.string ⟨#[101]⟩, .slice (some ⟨w0.heap.size + 1 + 1 + 1, 0, none⟩) 1 1, .bool true, .bool false, .func (.func 71) #[] #[]], .bool true]) (by simp [results, Try.results45, go_sem, z0, z1, z2, z3, z4]) rfl ?_
      exact ⟨w0.heap.size, by rw [HO.out]; rfl, HFR.out _ _ _ _ _⟩
    · have a0 := (blk_at hg2 20 (v := .string ⟨#[102]⟩) rfl).1
      have a1 := (blk_at hg2 21 (v := .slice (some ⟨w0.heap.size + 1 + 1 + 1 + 1, 0, none⟩) 1 1) rfl).1
      have a2 := (blk_at hg2 22 (v := .bool true) rfl).1
      have a3 := (blk_at hg2 23 (v := .bool false) rfl).1
      have a4 := (blk_at hg2 24 (v := .func (.func 72) #[] #[]) rfl).1
      clear hg2
      simp only [idxOf]
      go_wp2_with fail
      refine bodyPost_ret (v := .tuple #[.agg #[.string ⟨#[102]⟩, .slice (some ⟨w0.heap.size + 1 + 1 + 1 + 1, 0, none⟩) 1 1, .bool true, .bool false, .func (.func 72) #[] #[]], .bool true]) (by simp [results, Try.results45, go_sem, z0, z1, z2, z3, z4]) rfl ?_
      exact ⟨w0.heap.size, by rw [HO.out]; rfl, HFR.out _ _ _ _ _⟩
    · have a0 := (blk_at hg2 25 (v := .string ⟨#[105]⟩) rfl).1
      have a1 := (blk_at hg2 26 (v := .slice (some ⟨w0.heap.size + 1 + 1 + 1 + 1 + 1, 0, none⟩) 1 1) rfl).1
      have a2 := (blk_at hg2 27 (v := .bool false) rfl).1
      have a3 := (blk_at hg2 28 (v := .bool true) rfl).1
      have a4 := (blk_at hg2 29 (v := .func (.func 73) #[] #[]) rfl).1
      clear hg2
      simp only [idxOf]
      go_wp2_with fail
      refine bodyPost_ret (v := .tuple #[.agg #[.string ⟨#[105]⟩, .slice (some ⟨w0.heap.size + 1 + 1 + 1 + 1 + 1, 0, none⟩) 1 1, .bool false, .bool true, .func (.func 73) #[] #[]], .bool true]) (by simp [results, Try.results45, go_sem, z0, z1, z2, z3, z4]) rfl ?_
      exact ⟨w0.heap.size, by rw [HO.out]; rfl, HFR.out _ _ _ _ _⟩
end Go.Proofs.Ytbigolappdlhcaa
