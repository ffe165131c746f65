/- The options of the code; find. -/
import Derived.Test.YtbigolappdlhcaaI
import Derived.Laws.EntriesVeiled
namespace Go.Proofs.Ytbigolappdlhcaa
set_option linter.unusedSimpArgs false
set_option linter.unusedVariables false
open Go.RowKit

/-- An option's value: its letters, its names (a slice), is it of a value, of a suffix, what it does. -/
def optV (h k : Nat) : Value :=
  match k with
  | 0 => .agg #[.string ⟨#[110]⟩, .slice (some ⟨h, 0, none⟩) 2 2, .bool false, .bool false, .func (.func 68) #[] #[]]
  | 1 => .agg #[.string ⟨#[69, 114]⟩, .slice (some ⟨h + 1, 0, none⟩) 1 1, .bool false, .bool false, .func (.func 69) #[] #[]]
  | 2 => .agg #[.string ⟨#[115]⟩, .slice (some ⟨h + 1 + 1, 0, none⟩) 1 1, .bool false, .bool false, .func (.func 70) #[] #[]]
  | 3 => .agg #[.string ⟨#[101]⟩, .slice (some ⟨h + 1 + 1 + 1, 0, none⟩) 1 1, .bool true, .bool false, .func (.func 71) #[] #[]]
  | 4 => .agg #[.string ⟨#[102]⟩, .slice (some ⟨h + 1 + 1 + 1 + 1, 0, none⟩) 1 1, .bool true, .bool false, .func (.func 72) #[] #[]]
  | _ => .agg #[.string ⟨#[105]⟩, .slice (some ⟨h + 1 + 1 + 1 + 1 + 1, 0, none⟩) 1 1, .bool false, .bool true, .func (.func 73) #[] #[]]

def quietT : ByteArray := ⟨#[113, 117, 105, 101, 116]⟩
def silentT : ByteArray := ⟨#[115, 105, 108, 101, 110, 116]⟩
def regexpT : ByteArray := ⟨#[114, 101, 103, 101, 120, 112, 45, 101, 120, 116, 101, 110, 100, 101, 100]⟩
def separateT : ByteArray := ⟨#[115, 101, 112, 97, 114, 97, 116, 101]⟩
def expressionT : ByteArray := ⟨#[101, 120, 112, 114, 101, 115, 115, 105, 111, 110]⟩
def fileT : ByteArray := ⟨#[102, 105, 108, 101]⟩
def inplaceT : ByteArray := ⟨#[105, 110, 45, 112, 108, 97, 99, 101]⟩

/-- The options' names lie in the blocks from h on. -/
structure OptN (w : World) (h : Nat) : Prop where
  n0 : w.heap[h]? = some (.cells #[.string ⟨#[113, 117, 105, 101, 116]⟩, .string ⟨#[115, 105, 108, 101, 110, 116]⟩] 9 (0, 0))
  n1 : w.heap[h + 1]? = some (.cells #[.string ⟨#[114, 101, 103, 101, 120, 112, 45, 101, 120, 116, 101, 110, 100, 101, 100]⟩] 9 (0, 0))
  n2 : w.heap[h + 1 + 1]? = some (.cells #[.string ⟨#[115, 101, 112, 97, 114, 97, 116, 101]⟩] 9 (0, 0))
  n3 : w.heap[h + 1 + 1 + 1]? = some (.cells #[.string ⟨#[101, 120, 112, 114, 101, 115, 115, 105, 111, 110]⟩] 9 (0, 0))
  n4 : w.heap[h + 1 + 1 + 1 + 1]? = some (.cells #[.string ⟨#[102, 105, 108, 101]⟩] 9 (0, 0))
  n5 : w.heap[h + 1 + 1 + 1 + 1 + 1]? = some (.cells #[.string ⟨#[105, 110, 45, 112, 108, 97, 99, 101]⟩] 9 (0, 0))
def optCells (h : Nat) : Array Value := #[.string ⟨#[110]⟩, .slice (some ⟨h, 0, none⟩) 2 2, .bool false, .bool false, .func (.func 68) #[] #[],
  .string ⟨#[69, 114]⟩, .slice (some ⟨h + 1, 0, none⟩) 1 1, .bool false, .bool false, .func (.func 69) #[] #[],
  .string ⟨#[115]⟩, .slice (some ⟨h + 1 + 1, 0, none⟩) 1 1, .bool false, .bool false, .func (.func 70) #[] #[],
  .string ⟨#[101]⟩, .slice (some ⟨h + 1 + 1 + 1, 0, none⟩) 1 1, .bool true, .bool false, .func (.func 71) #[] #[],
  .string ⟨#[102]⟩, .slice (some ⟨h + 1 + 1 + 1 + 1, 0, none⟩) 1 1, .bool true, .bool false, .func (.func 72) #[] #[],
  .string ⟨#[105]⟩, .slice (some ⟨h + 1 + 1 + 1 + 1 + 1, 0, none⟩) 1 1, .bool false, .bool true, .func (.func 73) #[] #[]]
def OptPost (w : World) (e : Ending) (w' : World) : Prop := e = .returned (.slice (some ⟨w.heap.size + 1 + 1 + 1 + 1 + 1 + 1, 0, none⟩) 6 6) ∧ OptN w' w.heap.size ∧ w'.heap[w.heap.size + 1 + 1 + 1 + 1 + 1 + 1]? = some (.cells (optCells w.heap.size) 73 (0, 0)) ∧ Below w.heap.size w w'

theorem OptN.to {w w' : World} {h : Nat} (o : OptN w h) (hb : Below w.heap.size w w') : OptN w' h :=
  ⟨(hb.block _ (lt_of_block o.n0)).trans o.n0, (hb.block _ (lt_of_block o.n1)).trans o.n1, (hb.block _ (lt_of_block o.n2)).trans o.n2, (hb.block _ (lt_of_block o.n3)).trans o.n3, (hb.block _ (lt_of_block o.n4)).trans o.n4, (hb.block _ (lt_of_block o.n5)).trans o.n5⟩

theorem heap_alloc_at (w : World) (o : Obj) (n : Nat) (h : n = w.heap.size) : (w.alloc o).heap[n]? = some o := by subst h; exact heap_alloc_new w o

set_option maxRecDepth 8000 in
set_option maxHeartbeats 1600000 in
theorem options_any (w : World) : Calls Try.prog 57 #[] w (OptPost w) := by
  go_enter Try.func57, Try.ntmps57
  go_wp2
  go_ret
  refine ⟨rfl, ?_, ?_, ?_⟩
  · refine ⟨?_, ?_, ?_, ?_, ?_, ?_⟩
    all_goals
      (repeat first
        | exact heap_alloc_at _ _ _ (by simp)
        | rw [heap_alloc_old _ _ (by simp; try omega)])
  · exact heap_alloc_at _ _ _ (by simp)
  · exact bl_to (bl_to (bl_to (bl_to (bl_to (bl_to (bl_alloc w _) (bl_alloc _ _)) (bl_alloc _ _)) (bl_alloc _ _)) (bl_alloc _ _)) (bl_alloc _ _)) (bl_alloc _ _)

/-- The first option that is asked for. -/
def optOf (p : Nat → Bool) : Option Nat := if p 0 then some 0 else if p 1 then some 1 else if p 2 then some 2 else if p 3 then some 3 else if p 4 then some 4 else if p 5 then some 5 else none
def idxOf : Option Nat → Int
  | some k => k
  | none => -1
theorem optOf_hit {p : Nat → Bool} {k : Nat} (hk : k < 6) (h : p k = true) (hn : ∀ j, j < k → p j = false) : optOf p = some k := by
  unfold optOf
  rcases (show k = 0 ∨ k = 1 ∨ k = 2 ∨ k = 3 ∨ k = 4 ∨ k = 5 by omega) with rfl | rfl | rfl | rfl | rfl | rfl
  · simp [h]
  · simp [h, hn 0]
  · simp [h, hn 0, hn 1]
  · simp [h, hn 0, hn 1, hn 2]
  · simp [h, hn 0, hn 1, hn 2, hn 3]
  · simp [h, hn 0, hn 1, hn 2, hn 3, hn 4]
theorem optOf_none {p : Nat → Bool} (hn : ∀ j, j < 6 → p j = false) : optOf p = none := by
  unfold optOf
  simp [hn 0, hn 1, hn 2, hn 3, hn 4, hn 5]
theorem optOf_lt {p : Nat → Bool} {k : Nat} (h : optOf p = some k) : k < 6 ∧ p k = true := by
  unfold optOf at h
  repeat' split at h
  all_goals (simp at h)
  all_goals (subst h; exact ⟨by omega, by assumption⟩)

def IdxfPost (p : Nat → Bool) (w : World) (e : Ending) (w' : World) : Prop := e = .returned (.int .i64 (idxOf (optOf p))) ∧ Below w.heap.size w w'

set_option maxRecDepth 8000 in
set_option maxHeartbeats 3200000 in
theorem idxf_any (F : Nat) (caps : Array Value) (p : Nat → Bool) (h G : Nat) (w : World) (hcf : ∀ args w, (callFunc F args).run Try.prog w = .ok (.enter F args) w) (ho : w.heap[G]? = some (.cells (optCells h) 73 (0, 0)))
    (H : ∀ k, k < 6 → ∀ w1, Below w.heap.size w w1 → Calls Try.prog F (#[optV h k] ++ caps) w1 fun e w' => e = .returned (.bool (p k)) ∧ Below w1.heap.size w1 w') :
    Calls Try.prog 58 #[.slice (some ⟨G, 0, none⟩) 6 6, .func (.func F) #[] caps] w (IdxfPost p w) := by
  have HO := Lib.hid ho
  have HH := Lib.hid H
  clear ho H
  go_enter Try.func58, Try.ntmps58
  go_wp2
  go_loopw [5, 8] (fun _ i wr => ∃ j : Nat, j ≤ 6 ∧ i = .int .i64 j ∧ Below w.heap.size w wr ∧ Hid (∀ k, k < j → p k = false)) (fun _ i _ => 6 - (intOf i).toNat)
  case atStart => exact ⟨0, by omega, rfl, Below.refl _ _, fun k hk => by omega⟩
  case round =>
    obtain ⟨j, hj, rfl, hbel, hno⟩ := hrel
    have hg := (hbel.block G (lt_of_block HO.out)).trans HO.out
    have HB := Lib.hid hbel
    clear hbel
    by_cases hlt : j < 6
    · obtain ⟨q, hq⟩ : ∃ q, p j = q := ⟨_, rfl⟩
      have HC := Lib.hid (HH.out j hlt wr HB.out)
      rw [hq] at HC
      have HHIT : Hid (q = true → optOf p = some j) := fun h => optOf_hit hlt (by rw [hq, h]) hno.out
      have HNX : Hid (q = false → ∀ k, k < j + 1 → p k = false) := fun h k hk => by
        rcases Nat.lt_or_ge k j with h' | h'
        · exact hno.out k h'
        · obtain rfl : k = j := by omega
          rw [hq, h]
      clear hq
      rcases (show j = 0 ∨ j = 1 ∨ j = 2 ∨ j = 3 ∨ j = 4 ∨ j = 5 by omega) with rfl | rfl | rfl | rfl | rfl | rfl
      · have a0 := (blk_at hg 0 (v := .string ⟨#[110]⟩) rfl).1
        have a1 := (blk_at hg 1 (v := .slice (some ⟨h, 0, none⟩) 2 2) rfl).1
        have a2 := (blk_at hg 2 (v := .bool false) rfl).1
        have a3 := (blk_at hg 3 (v := .bool false) rfl).1
        have a4 := (blk_at hg 4 (v := .func (.func 68) #[] #[]) rfl).1
        clear hg
        go_wp2_with fail
        refine HC.out.mono ?_
        rintro e w1 ⟨rfl, hb1⟩
        have HB1 := Lib.hid (bl_to HB.out hb1)
        clear hb1 HC a0 a1 a2 a3 a4
        cases q
        · go_wp2_with fail
          go_roundw
          case rel => exact ⟨1, by omega, by go_num, HB1.out, HNX.out trivial⟩
          case measure => simp [intOf]
        · go_wp2_with fail
          go_ret
          exact ⟨ret_int (by rw [HHIT.out trivial]; rfl), HB1.out⟩
      · have a0 := (blk_at hg 5 (v := .string ⟨#[69, 114]⟩) rfl).1
        have a1 := (blk_at hg 6 (v := .slice (some ⟨h + 1, 0, none⟩) 1 1) rfl).1
        have a2 := (blk_at hg 7 (v := .bool false) rfl).1
        have a3 := (blk_at hg 8 (v := .bool false) rfl).1
        have a4 := (blk_at hg 9 (v := .func (.func 69) #[] #[]) rfl).1
        clear hg
        go_wp2_with fail
        refine HC.out.mono ?_
        rintro e w1 ⟨rfl, hb1⟩
        have HB1 := Lib.hid (bl_to HB.out hb1)
        clear hb1 HC a0 a1 a2 a3 a4
        cases q
        · go_wp2_with fail
          go_roundw
          case rel => exact ⟨2, by omega, by go_num, HB1.out, HNX.out trivial⟩
          case measure => simp [intOf]
        · go_wp2_with fail
          go_ret
          exact ⟨ret_int (by rw [HHIT.out trivial]; rfl), HB1.out⟩
      · have a0 := (blk_at hg 10 (v := .string ⟨#[115]⟩) rfl).1
        have a1 := (blk_at hg 11 (v := .slice (some ⟨h + 1 + 1, 0, none⟩) 1 1) rfl).1
        have a2 := (blk_at hg 12 (v := .bool false) rfl).1
        have a3 := (blk_at hg 13 (v := .bool false) rfl).1
        have a4 := (blk_at hg 14 (v := .func (.func 70) #[] #[]) rfl).1
        clear hg
        go_wp2_with fail
        refine HC.out.mono ?_
        rintro e w1 ⟨rfl, hb1⟩
        have HB1 := Lib.hid (bl_to HB.out hb1)
        clear hb1 HC a0 a1 a2 a3 a4
        cases q
        · go_wp2_with fail
          go_roundw
          case rel => exact ⟨3, by omega, by go_num, HB1.out, HNX.out trivial⟩
          case measure => simp [intOf]
        · go_wp2_with fail
          go_ret
          exact ⟨ret_int (by rw [HHIT.out trivial]; rfl), HB1.out⟩
      · have a0 := (blk_at hg 15 (v := .string ⟨#[101]⟩) rfl).1
        have a1 := (blk_at hg 16 (v := .slice (some ⟨h + 1 + 1 + 1, 0, none⟩) 1 1) rfl).1
        have a2 := (blk_at hg 17 (v := .bool true) rfl).1
        have a3 := (blk_at hg 18 (v := .bool false) rfl).1
        have a4 := (blk_at hg 19 (v := .func (.func 71) #[] #[]) rfl).1
        clear hg
        go_wp2_with fail
        refine HC.out.mono ?_
        rintro e w1 ⟨rfl, hb1⟩
        have HB1 := Lib.hid (bl_to HB.out hb1)
        clear hb1 HC a0 a1 a2 a3 a4
        cases q
        · go_wp2_with fail
          go_roundw
          case rel => exact ⟨4, by omega, by go_num, HB1.out, HNX.out trivial⟩
          case measure => simp [intOf]
        · go_wp2_with fail
          go_ret
          exact ⟨ret_int (by rw [HHIT.out trivial]; rfl), HB1.out⟩
      · have a0 := (blk_at hg 20 (v := .string ⟨#[102]⟩) rfl).1
        have a1 := (blk_at hg 21 (v := .slice (some ⟨h + 1 + 1 + 1 + 1, 0, none⟩) 1 1) rfl).1
        have a2 := (blk_at hg 22 (v := .bool true) rfl).1
        have a3 := (blk_at hg 23 (v := .bool false) rfl).1
        have a4 := (blk_at hg 24 (v := .func (.func 72) #[] #[]) rfl).1
        clear hg
        go_wp2_with fail
        refine HC.out.mono ?_
        rintro e w1 ⟨rfl, hb1⟩
        have HB1 := Lib.hid (bl_to HB.out hb1)
        clear hb1 HC a0 a1 a2 a3 a4
        cases q
        · go_wp2_with fail
          go_roundw
          case rel => exact ⟨5, by omega, by go_num, HB1.out, HNX.out trivial⟩
          case measure => simp [intOf]
        · go_wp2_with fail
          go_ret
          exact ⟨ret_int (by rw [HHIT.out trivial]; rfl), HB1.out⟩
      · have a0 := (blk_at hg 25 (v := .string ⟨#[105]⟩) rfl).1
        have a1 := (blk_at hg 26 (v := .slice (some ⟨h + 1 + 1 + 1 + 1 + 1, 0, none⟩) 1 1) rfl).1
        have a2 := (blk_at hg 27 (v := .bool false) rfl).1
        have a3 := (blk_at hg 28 (v := .bool true) rfl).1
        have a4 := (blk_at hg 29 (v := .func (.func 73) #[] #[]) rfl).1
        clear hg
        go_wp2_with fail
        refine HC.out.mono ?_
        rintro e w1 ⟨rfl, hb1⟩
        have HB1 := Lib.hid (bl_to HB.out hb1)
        clear hb1 HC a0 a1 a2 a3 a4
        cases q
        · go_wp2_with fail
          go_roundw
          case rel => exact ⟨6, by omega, by go_num, HB1.out, HNX.out trivial⟩
          case measure => simp [intOf]
        · go_wp2_with fail
          go_ret
          exact ⟨ret_int (by rw [HHIT.out trivial]; rfl), HB1.out⟩
    · have HNN : Hid (optOf p = none) := optOf_none (fun k hk => hno.out k (by omega))
      obtain rfl : j = 6 := by omega
      clear hg
      go_wp2_with fail
      go_ret
      exact ⟨ret_int (by rw [HNN.out]; rfl), HB.out⟩
end Go.Proofs.Ytbigolappdlhcaa
