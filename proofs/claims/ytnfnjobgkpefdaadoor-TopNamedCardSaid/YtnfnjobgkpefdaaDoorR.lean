/- SplitSeq and its iterator. -/
import Derived.Test.YtnfnjobgkpefdaaDoorQ
import Derived.RangeFuncNested
import Derived.RangeFuncBound
import Derived.RangeFuncCalls
import Derived.RangeFuncLeaves
import Derived.Shelf.Abstract
import Derived.Shelf.RegionOpen
import Derived.WalkKit
import Derived.OwnWalkIn
import Derived.TacticsInMore
import Derived.LoopNIn
import Derived.LoopIn
namespace Go.Proofs.YtnfnjobgkpefdaaDoor
set_option linter.unusedSimpArgs false
set_option linter.unusedVariables false
open Go.RowKit Go.Shelf
attribute [local go_sem] Oper.semAt_some

/-- The three captured cells. -/
structure Caps (w : World) (h : Nat) (s : ByteArray) : Prop where
  s0 : w.heap[h]? = some (.cells #[.string s] 9 (0, 0))
  s1 : w.heap[h + 1]? = some (.cells #[.string ⟨#[47]⟩] 9 (0, 0))
  s2 : w.heap[h + 2]? = some (.cells #[.int .i64 0] 3 (0, 0))

set_option maxRecDepth 8000 in
set_option maxHeartbeats 3200000 in
theorem f32_any (s : ByteArray) (w : World) :
    Calls Tryd.prog 32 #[.string s, .string ⟨#[47]⟩, .int .i64 0] w fun e w' => e = .returned (.func (.func 37) #[] #[.pointer (some ⟨w.heap.size + 1, 0, none⟩), .pointer (some ⟨w.heap.size, 0, none⟩), .pointer (some ⟨w.heap.size + 2, 0, none⟩)]) ∧ Caps w' w.heap.size s ∧ w'.heap.size = w.heap.size + 3 ∧ Below w.heap.size w w' := by
  go_enter Tryd.func32, Tryd.ntmps32
  go_wp2_with fail
  go_ret
  have e1 : ((w.alloc (.cells #[.string s] 9)).alloc (.cells #[.string ⟨#[47]⟩] 9)).heap.size = w.heap.size + 2 := by simp
  refine ⟨rfl, ⟨?_, ?_, ?_⟩, by simp, ((Below.refl _ w).alloc (Nat.le_refl _) _ |>.alloc (by simp) _).alloc (by rw [e1]; omega) _⟩
  · rw [Lib.alloc_old _ _ _ (by simp; omega), Lib.alloc_old _ _ _ (by simp)]
    exact heap_alloc_new w _
  · rw [Lib.alloc_old _ _ _ (by simp)]
    have := heap_alloc_new (w.alloc (.cells #[.string s] 9)) (.cells #[.string ⟨#[47]⟩] 9)
    rwa [World.size_alloc] at this
  · have := heap_alloc_new ((w.alloc (.cells #[.string s] 9)).alloc (.cells #[.string ⟨#[47]⟩] 9)) (.cells #[.int .i64 0] 3)
    rwa [e1] at this

set_option maxRecDepth 8000 in
set_option maxHeartbeats 3200000 in
theorem f24_any (s : ByteArray) (w : World) :
    Calls Tryd.prog 24 #[.string s, .string ⟨#[47]⟩] w fun e w' => e = .returned (.func (.func 37) #[] #[.pointer (some ⟨w.heap.size + 1, 0, none⟩), .pointer (some ⟨w.heap.size, 0, none⟩), .pointer (some ⟨w.heap.size + 2, 0, none⟩)]) ∧ Caps w' w.heap.size s ∧ w'.heap.size = w.heap.size + 3 ∧ Below w.heap.size w w' := by
  have HC := Lib.hid (f32_any s w)
  go_enter Tryd.func24, Tryd.ntmps24
  go_wp2_with fail
  refine HC.out.mono ?_
  rintro e w' ⟨rfl, h1, h2, h3⟩
  go_wp2_with fail
  go_ret
  exact ⟨rfl, h1, h2, h3⟩

theorem cut_slash (r : Bs) : (Lib.indexByte r 47 = -1 ∧ splitB r = [r]) ∨ ∃ a b, r = a ++ 47 :: b ∧ Lib.indexByte r 47 = (a.length : Int) ∧ splitB r = a :: splitB b := by
  have hge := Lib.indexByte_ge r 47
  rcases (show Lib.indexByte r 47 = -1 ∨ ∃ o : Nat, Lib.indexByte r 47 = o by
    by_cases h : Lib.indexByte r 47 = -1
    · exact .inl h
    · exact .inr ⟨(Lib.indexByte r 47).toNat, by omega⟩) with h | ⟨o, h⟩
  · left
    refine ⟨h, splitB_name r (fun hm => ?_)⟩
    obtain ⟨k, hk, e⟩ := List.mem_iff_getElem.1 hm
    exact Lib.indexByte_none h k (by rw [List.getElem?_eq_getElem hk, e])
  · right
    obtain ⟨h1, h2⟩ := Lib.indexByte_some h
    obtain ⟨hl, h3⟩ := List.getElem?_eq_some_iff.1 h1
    have hr : r = r.take o ++ 47 :: r.drop (o + 1) := by
      have := List.drop_eq_getElem_cons hl
      rw [h3] at this
      rw [← this, List.take_append_drop]
    have hlen : (r.take o).length = o := by rw [List.length_take]; omega
    have hnm : 47 ∉ r.take o := fun hm => by
      obtain ⟨k, hk, e⟩ := List.mem_iff_getElem.1 hm
      rw [hlen] at hk
      rw [List.getElem_take] at e
      exact h2 k hk (by rw [List.getElem?_eq_getElem (by omega), e])
    refine ⟨r.take o, r.drop (o + 1), hr, by rw [h, hlen], ?_⟩
    conv => lhs; rw [hr]
    exact splitB_app _ _ hnm

/-- How long what is left is. -/
def boxLen (w : World) (h : Nat) : Nat := match w.cell? ⟨h, 0, none⟩ with
  | some (.string r) => r.size
  | _ => 0
theorem boxLen_eq {w : World} {h : Nat} {r : ByteArray} (c : w.cell? ⟨h, 0, none⟩ = some (.string r)) : boxLen w h = r.size := by
  unfold boxLen; rw [c]
theorem Caps.cells {w : World} {h : Nat} {s : ByteArray} (c : Caps w h s) : w.cell? ⟨h, 0, none⟩ = some (.string s) ∧ w.cell? ⟨h + 1, 0, none⟩ = some (.string ⟨#[47]⟩) ∧ w.cell? ⟨h + 2, 0, none⟩ = some (.int .i64 0) ∧ w.frozen? ⟨h, 0, none⟩ = false :=
  ⟨by simp [World.cell?, c.s0], by simp [World.cell?, c.s1], by simp [World.cell?, c.s2], by simp [World.frozen?, c.s0]⟩
theorem Caps.keep {w w' : World} {h : Nat} {s : ByteArray} (c : Caps w h s) (hk : ∀ k, h ≤ k → k < h + 3 → w'.heap[k]? = w.heap[k]?) : Caps w' h s :=
  ⟨(hk h (Nat.le_refl _) (by omega)).trans c.s0, (hk (h + 1) (by omega) (by omega)).trans c.s1, (hk (h + 2) (by omega) (by omega)).trans c.s2⟩
theorem Caps.set {w : World} {h : Nat} {s : ByteArray} (c : Caps w h s) (r : ByteArray) : Caps (w.setCell ⟨h, 0, none⟩ (.string r)) h r :=
  ⟨heap_setCell_same w h 0 _ 9 (0, 0) _ c.s0, (Below.heap_setCell w ⟨h, 0, none⟩ _ _ (by simp)).trans c.s1, (Below.heap_setCell w ⟨h, 0, none⟩ _ _ (by simp)).trans c.s2⟩

set_option maxRecDepth 8000 in
set_option maxHeartbeats 3200000 in
theorem f37_in (n : Nat) (l hB : Nat) (s : ByteArray) (J : List Bs → World → Prop) (W : World) (hJ : ∀ pre A B row, J pre A → A.grownBy B row → (∀ r, row = some r → r = hB) → J pre B)
    (hY : ∀ pre x rest W, splitB s.data.toList = pre ++ x :: rest → J pre W → YieldAt Fence.wide (n - 1) Tryd.prog l #[.string ⟨x.toArray⟩] W fun e W' => e = .returned (.bool true) ∧ J (pre ++ [x]) W' ∧ ∀ k, hB ≤ k → k < hB + 3 → W'.heap[k]? = W.heap[k]?)
    (hC : Caps W hB s) (h0 : J [] W) (hsz : s.size ≤ 16777216) :
    CallsIn Fence.wide n Tryd.prog 37 #[.func (.yield l) #[] #[], .pointer (some ⟨hB + 1, 0, none⟩), .pointer (some ⟨hB, 0, none⟩), .pointer (some ⟨hB + 2, 0, none⟩)] W fun e W' => (∃ v, e = .returned v) ∧ J (splitB s.data.toList) W' := by
  refine callsIn_of_wp Tryd.func37 rfl trivial ?_ rfl
  simp only [Tryd.ntmps37, List.size_toArray, List.length_cons, List.length_nil, Nat.reduceAdd, Nat.reduceSub, Array.replicate_succ, Array.replicate_zero, List.push_toArray, List.append_toArray, List.nil_append, List.cons_append]
  have c0 : W.cell? ⟨hB, 0, none⟩ = some (.string s) := by simp [World.cell?, hC.s0]
  have c1 : W.cell? ⟨hB + 1, 0, none⟩ = some (.string ⟨#[47]⟩) := by simp [World.cell?, hC.s1]
  have c2 : W.cell? ⟨hB + 2, 0, none⟩ = some (.int .i64 0) := by simp [World.cell?, hC.s2]
  gi_wp2
  clear c0 c1 c2
  gi_loopw [7] (fun _ wr => ∃ (pre : List Bs) (r : ByteArray), splitB s.data.toList = pre ++ splitB r.data.toList ∧ Caps wr hB r ∧ J pre wr ∧ r.size ≤ 16777216) (fun _ wr => boxLen wr hB)
  case atStart => exact ⟨[], s, rfl, hC, h0, hsz⟩
  case round =>
    obtain ⟨pre, r, hs, hC1, hJ1, hrz⟩ := hrel
    obtain ⟨c0, c1, c2, f0⟩ := hC1.cells
    have hbl := boxLen_eq c0
    have HIX := Lib.hid (callsIn_wide (n := n - 1).2 (Tryd.strings_Index_one r 47 wr))
    rcases cut_slash r.data.toList with ⟨hi, hsp⟩ | ⟨a, b, hr, hi, hsp⟩
    · rw [hi] at HIX
      rw [hsp] at hs
      obtain ⟨fn, tmps, assign, body, hy, hR⟩ := hY pre r.data.toList [] wr hs hJ1
      have er : (⟨r.data.toList.toArray⟩ : ByteArray) = r := rfl
      rw [er] at hy
      have HS := Lib.hid hs
      have HC := Lib.hid hC1
      clear hs hsp hC1 hbl
      clear er
      gi_wp2
      refine ⟨trivial, fun h => (by cases h), ?_⟩
      refine HIX.out.mono ?_
      rintro e w' ⟨rfl, rfl⟩
      gi_wp2
      refine ⟨fun h => (by cases h), ?_⟩
      refine hR.mono ?_
      rintro e W' ⟨rfl, hJ', hk⟩
      gi_wp2
      go_end0
      exact ⟨⟨_, rfl⟩, by rw [HS.out]; exact hJ'⟩
    · rw [hi] at HIX
      rw [hsp] at hs
      obtain ⟨fn, tmps, assign, body, hy, hR⟩ := hY pre a (splitB b) wr hs hJ1
      have hal : a.length < r.size := by
        have := congrArg List.length hr
        simp at this
        omega
      have er : r.extract 0 a.length = (⟨a.toArray⟩ : ByteArray) := ba_ext (by rw [ba_extract, hr]; simp)
      have eb : (r.extract (a.length + 1) r.size).data.toList = b := by
        have hl : r.size = r.data.toList.length := by simp
        rw [ba_extract, hl, List.take_length, hr]
        simp
      rw [← er] at hy
      have HS := Lib.hid hs
      have HC := Lib.hid hC1
      have HE := Lib.hid eb
      have HBL := Lib.hid hbl
      have HJ := Lib.hid hJ
      obtain ⟨i, hil⟩ : ∃ i, a.length = i := ⟨_, rfl⟩
      rw [hil] at HIX hal HE hy
      have l1 : (0 : Int) ≤ (i : Int) := by omega
      have l2 : (i : Int) ≤ (r.size : Int) := by omega
      have l3 : (i : Int) + 1 ≤ (r.size : Int) := by omega
      have l4 : (0 : Int) ≤ (i : Int) + 1 := by omega
      have d1 : decide ((i : Int) < 0) = false := decide_eq_false (by omega)
      have w1 : IntKind.i64.wrap (i : Int) = (i : Int) := wrap_in _ (by omega) (by omega)
      have w2 : IntKind.i64.wrap ((i : Int) + 1) = (i : Int) + 1 := wrap_in _ (by omega) (by omega)
      have t1 : ((i : Int) + 1).toNat = i + 1 := by omega
      clear hs hsp hC1 hbl er eb hr hi hJ hil
      gi_wp2
      refine ⟨trivial, fun h => (by cases h), ?_⟩
      refine HIX.out.mono ?_
      rintro e w' ⟨rfl, rfl⟩
      gi_wp2
      refine ⟨fun h => (by cases h), ?_⟩
      refine hR.mono ?_
      rintro e W' ⟨rfl, hJ', hk⟩
      have hC2 := HC.out.keep hk
      have HC2 := Lib.hid hC2
      obtain ⟨c0, c1, c2, f0⟩ := hC2.cells
      clear hC2
      gi_wp2
      go_roundw
      case rel => exact ⟨pre ++ [a], r.extract (i + 1) r.size, by rw [HE.out, HS.out]; simp, HC2.out.set _, HJ.out _ _ _ (some hB) hJ' (grownBy_setCell' _ _ _) (fun r e => by cases e; rfl), by rw [ByteArray.size_extract]; omega⟩
      case measure =>
        rw [HBL.out, boxLen_eq (HC2.out.set _).cells.1, ByteArray.size_extract]
        omega
end Go.Proofs.YtnfnjobgkpefdaaDoor
