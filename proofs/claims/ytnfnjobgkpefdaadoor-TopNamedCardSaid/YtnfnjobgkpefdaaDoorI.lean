/- Quote. -/
import Derived.Test.YtnfnjobgkpefdaaDoorH
namespace Go.Proofs.YtnfnjobgkpefdaaDoor
set_option linter.unusedSimpArgs false
set_option linter.unusedVariables false
open Go.RowKit

/-- The first j bytes, told. -/
def toldUp (s : ByteArray) (j : Nat) : Bs := (s.data.toList.take j).flatMap quoB
theorem toldUp_le (s : ByteArray) (j : Nat) : (toldUp s j).length ≤ 4 * j := by
  unfold toldUp
  have key : ∀ l : Bs, (l.flatMap quoB).length ≤ 4 * l.length := by
    intro l
    induction l with
    | nil => simp
    | cons a r ih => rw [List.flatMap_cons, List.length_append, List.length_cons]; have := quoB_le a; omega
  refine Nat.le_trans (key _) ?_
  rw [List.length_take]; omega
theorem toldUp_succ (s : ByteArray) (j : Nat) (h : j < s.size) : toldUp s (j + 1) = toldUp s j ++ quoB (s[j]'h) := by
  unfold toldUp
  have h' : j < s.data.toList.length := by simpa using h
  rw [List.take_succ_eq_append_getElem h', List.flatMap_append]
  simp
  rfl

theorem row_to {w w1 : World} {base sz n : Nat} {e : TypeId} {v : Value} {xs : List Value} (hb : Below w.heap.size w w1) (hs : w.ownsRow base e sz v n xs) : w1.ownsRow base e sz v n xs :=
  World.ownsRow.kept (row := none) hs ⟨hb.os, hb.tape, hb.output, hb.size, fun k hk _ => hb.block k hk⟩ (by cases v.ownBlock <;> simp)
theorem builder_to {B b : Nat} {bs : List Value} {w W : World} (h : Lib.IsBuilder 45 5 B b bs w) (hb : Below w.heap.size w W) : Lib.IsBuilder 45 5 B b bs W := by
  have key : ∀ p, Lib.BuilderAt 45 5 B b p bs w → Lib.BuilderAt 45 5 B b p bs W := by
    rintro p ⟨h1, v, h2, h3, h4⟩
    exact ⟨h1, v, (hb.block _ (lt_blk h2)).trans h2, row_to hb h3, h4⟩
  exact h.imp (key _) (key _)
set_option maxRecDepth 100000 in
set_option maxHeartbeats 3200000 in
theorem Quote_any (s : ByteArray) (w : World) (hs : Sh w) (hsz : s.size ≤ 4194304) :
    Calls Tryd.prog 8 #[.string s] w fun e w' => e = .returned (.string ⟨(quote s.data.toList).toArray⟩) ∧ Below w.heap.size w w' := by
  have hb0 := Lib.fresh_isBuilder 45 5 w
  have HW := Lib.hid (WriteByte_any _ _ _ 34 _ hb0 (by simp) (by simp))
  clear hb0
  go_enter Tryd.func8, Tryd.ntmps8
  go_wp2_with fail
  refine HW.out.mono ?_
  rintro e w1 ⟨rfl, hb1, hbl⟩
  have HI : Hid (Lib.IsBuilder 45 5 w.heap.size w.heap.size (Lib.byteCells (34 :: toldUp s 0)) w1) := hb1
  have HB := Lib.hid (show Below w.heap.size w w1 from (bl_alloc w (.cells #[.pointer none, .slice none 0 0] 45)).trans hbl)
  clear hb1 hbl HW
  go_wp2_with fail
  go_loopw [8] (fun s8 wr => ∃ j : Nat, j ≤ s.size ∧ s8 = .int .i64 j ∧ Lib.IsBuilder 45 5 w.heap.size w.heap.size (Lib.byteCells (34 :: toldUp s j)) wr ∧ Below w.heap.size w wr) (fun s8 _ => s.size - (intOf s8).toNat)
  case atStart => exact ⟨0, Nat.zero_le _, rfl, HI.out, HB.out⟩
  case round =>
    obtain ⟨j, hj, rfl, hbu, hbl⟩ := hrel
    have hle := toldUp_le s j
    have hbn : (Lib.byteCells (34 :: toldUp s j)).length = (toldUp s j).length + 1 := by rw [Lib.byteCells_length]; rfl
    have HB2 := Lib.hid hbl
    have HU2 := Lib.hid hbu
    clear hbl hbu HI HB
    by_cases hlt : j < s.size
    · have hl1 : (j : Int) < (s.size : Int) := by omega
      have hd : decide ((j : Int) < (s.size : Int)) = true := decide_eq_true hl1
      have hsucc := toldUp_succ s j hlt
      obtain ⟨c, hcc⟩ : ∃ c, s[j]'hlt = c := ⟨_, rfl⟩
      rw [hcc] at hsucc
      have w5 : IntKind.i64.wrap ((j : Int) + 1) = (j : Int) + 1 := wrap_in _ (by omega) (by omega)
      by_cases h34 : c = 34
      · have HW1 := Lib.hid (WriteByte_any _ _ _ 92 _ HU2.out (by omega) HB2.out.size)
        have HS := Lib.hid hsucc
        subst h34
        clear hsucc
        go_wp2_with fail
        refine HW1.out.mono ?_
        rintro e w2 ⟨rfl, hb2, hbl2⟩
        have HB3 := Lib.hid (HB2.out.trans hbl2)
        have HW2 := Lib.hid (WriteByte_any _ _ _ 34 _ hb2 (by rw [List.length_append, hbn]; simp; omega) HB3.out.size)
        clear hb2 hbl2
        go_wp2_with fail
        refine HW2.out.mono ?_
        rintro e w3 ⟨rfl, hb3, hbl3⟩
        have HU3 : Hid (Lib.IsBuilder 45 5 w.heap.size w.heap.size (Lib.byteCells (34 :: toldUp s (j + 1))) w3) := by
          show Lib.IsBuilder _ _ _ _ _ _
          rw [HS.out]
          simpa [Lib.byteCells, quoB] using hb3
        have HB4 := Lib.hid (HB3.out.trans hbl3)
        clear hb3 hbl3
        go_wp2_with fail
        go_roundw
        case rel => exact ⟨j + 1, by omega, by go_num, HU3.out, HB4.out⟩
        case measure => simp [intOf]; omega
      · have h34' : ¬ c.toNat = 34 := fun e => h34 (by rw [← UInt8.toNat_inj]; exact e)
        have n34 : ¬ (c.toNat : Int) = 34 := by omega
        have e34 : ((c.toNat : Int) == 34) = false := by simpa using n34
        have hq : quoB c = toldB c := by unfold quoB; rw [if_neg h34]
        rw [hq] at hsucc
        have h4 : (toldB c).length ≤ 4 := by rw [← hq]; exact quoB_le c
        have HS := Lib.hid hsucc
        have HTO := Lib.hid (fun W (hb : Below w.heap.size w W) => told_any c W (hs.to hb))
        clear hsucc hq
        go_wp2_with fail
        refine (HTO.out _ HB2.out).mono ?_
        rintro e w2 ⟨rfl, hbl2⟩
        have HB3 := Lib.hid (bl_to HB2.out hbl2)
        have hU3 := builder_to HU2.out hbl2
        have htl : (⟨(toldB c).toArray⟩ : ByteArray).size = (toldB c).length := List.size_toArray
        have HW1 := Lib.hid (WriteString_any _ _ _ ⟨(toldB c).toArray⟩ _ hU3 (by rw [htl]; omega) HB3.out.size)
        clear hbl2 hU3
        go_wp2_with fail
        refine HW1.out.mono ?_
        rintro e w3 ⟨rfl, hb3, hbl3⟩
        have HU4 : Hid (Lib.IsBuilder 45 5 w.heap.size w.heap.size (Lib.byteCells (34 :: toldUp s (j + 1))) w3) := by
          show Lib.IsBuilder _ _ _ _ _ _
          rw [HS.out]
          simpa [Lib.byteCells, Lib.strCells] using hb3
        have HB4 := Lib.hid (HB3.out.trans hbl3)
        clear hb3 hbl3
        go_wp2_with fail
        go_roundw
        case rel => exact ⟨j + 1, by omega, by go_num, HU4.out, HB4.out⟩
        case measure => simp [intOf]; omega
    · have hl1 : ¬ (j : Int) < (s.size : Int) := by omega
      have hd : decide ((j : Int) < (s.size : Int)) = false := decide_eq_false hl1
      have HW1 := Lib.hid (WriteByte_any _ _ _ 34 _ HU2.out (by omega) HB2.out.size)
      obtain rfl : j = s.size := by omega
      go_wp2_with fail
      refine HW1.out.mono ?_
      rintro e w2 ⟨rfl, hb2, hbl2⟩
      have HU3 : Hid (Lib.IsBuilder 45 5 w.heap.size w.heap.size (Lib.byteCells (quote s.data.toList)) w2) := by
        show Lib.IsBuilder _ _ _ _ _ _
        have e : quote s.data.toList = (34 :: toldUp s s.size) ++ [34] := by
          unfold quote toldUp
          rw [List.take_of_length_le (by simp)]
          rfl
        rw [e]
        simpa [Lib.byteCells] using hb2
      have HB3 := Lib.hid (HB2.out.trans hbl2)
      clear hb2 hbl2
      have HST := Lib.hid (Tryd.Builder_String_any _ _ _ _ HU3.out HB3.out.size)
      go_wp2_with fail
      refine HST.out.mono ?_
      rintro e w3 ⟨rfl, hbl3⟩
      have HB4 := Lib.hid (HB3.out.trans hbl3)
      clear hbl3
      go_wp2_with fail
      go_ret
      exact ⟨rfl, HB4.out⟩
end Go.Proofs.YtnfnjobgkpefdaaDoor
