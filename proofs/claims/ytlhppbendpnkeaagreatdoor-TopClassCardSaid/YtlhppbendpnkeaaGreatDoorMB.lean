/- Texts of one chain, merged by a small program (G, H, I). -/
import Derived.Test.YtlhppbendpnkeaaGreatDoorMA
import Derived.Test.YtlhppbendpnkeaaGreatDoorShelf
/- strings.Builder: copyCheck, by hand (its panic's arm is refused by the loader). -/
namespace Go.Proofs.YtlhppbendpnkeaaGreatDoor
set_option linter.unusedSimpArgs false
set_option linter.unusedVariables false
open Go.RowKit

theorem sizeBuilder : (Tryz.prog.info? 60).map (·.size) = some 2 := by kernel_rfl
theorem liesBuilder : liesAt Tryz.prog Tryz.prog.depth 60 (2 / Tryz.prog.cellsOf 60) 0 60 1 = true := by kernel_rfl
set_option maxRecDepth 100000 in
set_option maxHeartbeats 1600000 in
theorem copyCheck_any (B b : Nat) (bs : List Value) (w : World) (h : Lib.IsBuilder 60 5 B b bs w) :
    Calls Tryz.prog 42 #[.pointer (some ⟨b, 0, none⟩)] w fun e w' => e = .returned (.tuple #[]) ∧ (Lib.BuilderAt 60 5 B b (.pointer (some ⟨b, 0, none⟩)) bs w' ∧ Below B w w') := by
  rcases h with h | h
  · have h0 := h.cell0
    have hsh := h.shape
    have hfr := h.frozen0
    have HB := Lib.hid h
    clear h
    obtain ⟨j, hj, hjs⟩ := Option.map_eq_some_iff.1 sizeBuilder
    go_enter Tryz.func42, Tryz.ntmps42
    go_wp2_with fail
    rw [Lib.run_to_unsafe w ⟨b, 0, none⟩ Tryz.underlying58 Tryz.underlying104 hj (by rw [hjs]; decide) hsh (Nat.zero_lt_succ 1)]
    simp only [Result.andThen]
    rw [Oper.upon_value]
    go_wp2_with fail
    rw [run_callFunc_extern Tryz.func70 (by kernel_rfl) (by kernel_rfl) (by kernel_rfl) (e := Extern.AbiNoEscape.same) (by kernel_rfl)]
    rw [Lib.run_noEscape]
    simp only [Result.andThen]
    rw [Oper.upon_value]
    go_wp2_with fail
    rw [Lib.run_from_unsafe w ⟨b, 0, none⟩ Tryz.underlying104 Tryz.underlying58 hj hsh liesBuilder]
    simp only [Result.andThen]
    rw [Oper.upon_value]
    go_wp2_with fail
    go_end0
    exact ⟨rfl, HB.out.used _, (Below.refl B w).setCell (p := ⟨b, 0, none⟩) HB.out.1 _⟩
  · have h0 := h.cell0
    have HB := Lib.hid h
    clear h
    obtain ⟨j, hj, hjs⟩ := Option.map_eq_some_iff.1 sizeBuilder
    go_enter Tryz.func42, Tryz.ntmps42
    go_wp2_with fail
    rw [Lib.run_neq_ptr_same w _ Tryz.underlying58 hj]
    go_wp2_with fail
    go_end0
    exact ⟨rfl, HB.out, Below.refl B _⟩
end Go.Proofs.YtlhppbendpnkeaaGreatDoor
/- strings.Builder: WriteByte, WriteString. -/
namespace Go.Proofs.YtlhppbendpnkeaaGreatDoor
set_option linter.unusedSimpArgs false
set_option linter.unusedVariables false
open Go.RowKit

theorem info5 : (Tryz.prog.info? 5).map (fun i => (i.zero, i.size, i.bytes)) = some (some (.int .u8 0), 1, 1) := by kernel_rfl
theorem str_len (s : ByteArray) : (Lib.strCells s).length = s.size := by
  simp [Lib.strCells]
theorem lt_blk {w : World} {b : Nat} {o : Obj} (h : w.heap[b]? = some o) : b < w.heap.size := (Array.getElem?_eq_some_iff.1 h).1

set_option maxRecDepth 100000 in
set_option maxHeartbeats 3200000 in
theorem WriteByte_any (B b : Nat) (bs : List Value) (c : Int) (w : World) (h : Lib.IsBuilder 60 5 B b bs w) (hlen : bs.length + 1 ≤ 140737488355328) (hBw : B ≤ w.heap.size) :
    Calls Tryz.prog 27 #[.pointer (some ⟨b, 0, none⟩), .int .u8 c] w fun e w' => e = .returned .nilIface ∧ (Lib.IsBuilder 60 5 B b (bs ++ [.int .u8 c]) w' ∧ Below B w w') := by
  obtain ⟨i0, hi0, hz0, hz1, hz2⟩ := info_parts info5
  have HC := Lib.hid (copyCheck_any B b bs w h)
  go_enter Tryz.func27, Tryz.ntmps27
  go_wp2_with fail
  refine HC.out.mono ?_
  rintro e w1 ⟨rfl, h1, hb1⟩
  obtain ⟨hB, v, hbk, hown, hne⟩ := h1
  have hblt := lt_blk hbk
  have c1 : w1.cell? ⟨b, 1, none⟩ = some v := by simp [World.cell?, hbk]
  have hs1 := hb1.size
  have HB1 := Lib.hid hb1
  clear hb1
  go_wp2_with (at_builtin; go_must (refine wpList_append_own _ rfl (.tmp 11) (.tmp 13) 44 rfl B 5 i0 (.int .u8 0) 1 1 Tryz.underlying44 hi0 hz0 hz1 hz2 rfl (by decide) _ _ _ rfl (hown.alloc _) ⟨w1.heap.size, 0, none⟩ 1 1 [.int .u8 c] rfl rfl (by intro j u hj; rcases j with _ | j <;> simp_all [Addr.add]) (by intro u hu; simp at hu; subst hu; rfl) (by unfold maxLen; omega) (by omega) (by simp; omega) ?_))
  intro v' w2 hown' hgrow _
  have hb2 : w2.heap[b]? = some (.cells #[.pointer (some ⟨b, 0, none⟩), v] 60 (0, 0)) := by
    rw [hgrow.block b (by simp; omega) (fun e => hne e.symm), Lib.alloc_old w1 _ b hblt]
    exact hbk
  have d1 : w2.cell? ⟨b, 1, none⟩ = some v := by simp [World.cell?, hb2]
  have f1 : w2.frozen? ⟨b, 1, none⟩ = false := by simp [World.frozen?, hb2]
  have HG := Lib.hid (((HB1.out.alloc (by omega) (.cells #[.int .u8 c] 5)).grown hgrow (by simp; omega) (fun k hk => (hown.lt k hk).1)).setCell (p := ⟨b, 1, none⟩) hB v')
  have HO := Lib.hid hown'
  obtain ⟨g, cap, rfl⟩ : ∃ g cap, v' = .slice (some ⟨g, 0, none⟩) (bs.length + 1) cap := by
    rcases hown'.2 with ⟨_, h0⟩ | ⟨g, cap, cur, hv, _⟩
    · omega
    · exact ⟨g, cap, hv⟩
  clear hown' hgrow
  go_wp2_with fail
  go_ret
  exact ⟨rfl, .inr (Lib.BuilderAt.put (T := 60) (e := 5) hB hb2 (bs' := bs ++ [.int .u8 c]) (by simpa using HO.out) (by decide)), HG.out⟩

set_option maxRecDepth 100000 in
set_option maxHeartbeats 3200000 in
theorem WriteString_any (B b : Nat) (bs : List Value) (s : ByteArray) (w : World) (h : Lib.IsBuilder 60 5 B b bs w) (hlen : bs.length + s.size ≤ 140737488355328) (hBw : B ≤ w.heap.size) :
    Calls Tryz.prog 28 #[.pointer (some ⟨b, 0, none⟩), .string s] w fun e w' => e = .returned (.tuple #[.int .i64 s.size, .nilIface]) ∧ (Lib.IsBuilder 60 5 B b (bs ++ Lib.strCells s) w' ∧ Below B w w') := by
  obtain ⟨i0, hi0, hz0, hz1, hz2⟩ := info_parts info5
  have HC := Lib.hid (copyCheck_any B b bs w h)
  go_enter Tryz.func28, Tryz.ntmps28
  go_wp2_with fail
  refine HC.out.mono ?_
  rintro e w1 ⟨rfl, h1, hb1⟩
  obtain ⟨hB, v, hbk, hown, hne⟩ := h1
  have hblt := lt_blk hbk
  have c1 : w1.cell? ⟨b, 1, none⟩ = some v := by simp [World.cell?, hbk]
  have hs1 := hb1.size
  have HB1 := Lib.hid hb1
  clear hb1
  go_wp2_with (at_builtin; go_must (refine Lib.wpList_append_own_string _ rfl (.tmp 12) (.tmp 13) 44 9 rfl B 5 i0 Tryz.underlying44 Tryz.underlying9 hi0 hz0 hz1 hz2 _ _ _ rfl hown s rfl (by unfold maxLen; omega) (by omega) (by omega) ?_))
  intro v' w2 hown' hgrow _
  have hb2 : w2.heap[b]? = some (.cells #[.pointer (some ⟨b, 0, none⟩), v] 60 (0, 0)) := by
    rw [hgrow.block b hblt (fun e => hne e.symm)]
    exact hbk
  have d1 : w2.cell? ⟨b, 1, none⟩ = some v := by simp [World.cell?, hb2]
  have f1 : w2.frozen? ⟨b, 1, none⟩ = false := by simp [World.frozen?, hb2]
  have HG := Lib.hid ((HB1.out.grown hgrow (by omega) (fun k hk => (hown.lt k hk).1)).setCell (p := ⟨b, 1, none⟩) hB v')
  have HO := Lib.hid hown'
  obtain ⟨vo, vc, rfl⟩ : ∃ vo vc, v' = .slice vo (bs.length + s.size) vc := by
    rcases hown'.2 with ⟨hv, h0⟩ | ⟨g, cap, cur, hv, _⟩
    · exact ⟨none, 0, by rw [hv]; congr 1; omega⟩
    · exact ⟨_, cap, hv⟩
  clear hown' hgrow
  go_wp2_with fail
  go_ret2
  exact ⟨rfl, .inr (Lib.BuilderAt.put (T := 60) (e := 5) hB hb2 (bs' := bs ++ Lib.strCells s) (by rw [List.length_append, str_len]; exact HO.out) (by decide)), HG.out⟩
end Go.Proofs.YtlhppbendpnkeaaGreatDoor
/- Quote. -/
namespace Go.Proofs.YtlhppbendpnkeaaGreatDoor
set_option linter.unusedSimpArgs false
set_option linter.unusedVariables false
open Go.RowKit

/-- The first j bytes, told. -/
def toldUp (s : ByteArray) (j : Nat) : Bs := (s.data.toList.take j).flatMap quoB
theorem toldUp_le (s : ByteArray) (j : Nat) : (toldUp s j).length ≤ 4 * j := by
  unfold toldUp
  have key : ∀ l : Bs, (l.flatMap quoB).length ≤ 4 * l.length := by
    intro l
    induction l with
    | nil => simp
    | cons a r ih => rw [List.flatMap_cons, List.length_append, List.length_cons]; have := quoB_le a; omega
  refine Nat.le_trans (key _) ?_
  rw [List.length_take]; omega
theorem toldUp_succ (s : ByteArray) (j : Nat) (h : j < s.size) : toldUp s (j + 1) = toldUp s j ++ quoB (s[j]'h) := by
  unfold toldUp
  have h' : j < s.data.toList.length := by simpa using h
  rw [List.take_succ_eq_append_getElem h', List.flatMap_append]
  simp
  rfl

theorem Sh.to {w W : World} (h : Sh w) (hb : Below w.heap.size w W) : Sh W := fun i hi => bl_cell hb (h i hi)
theorem row_to {w w1 : World} {base sz n : Nat} {e : TypeId} {v : Value} {xs : List Value} (hb : Below w.heap.size w w1) (hs : w.ownsRow base e sz v n xs) : w1.ownsRow base e sz v n xs :=
  World.ownsRow.kept (row := none) hs ⟨hb.os, hb.tape, hb.output, hb.size, fun k hk _ => hb.block k hk⟩ (by cases v.ownBlock <;> simp)
theorem builder_to {B b : Nat} {bs : List Value} {w W : World} (h : Lib.IsBuilder 60 5 B b bs w) (hb : Below w.heap.size w W) : Lib.IsBuilder 60 5 B b bs W := by
  have key : ∀ p, Lib.BuilderAt 60 5 B b p bs w → Lib.BuilderAt 60 5 B b p bs W := by
    rintro p ⟨h1, v, h2, h3, h4⟩
    exact ⟨h1, v, (hb.block _ (lt_blk h2)).trans h2, row_to hb h3, h4⟩
  exact h.imp (key _) (key _)
set_option maxRecDepth 100000 in
set_option maxHeartbeats 3200000 in
theorem Quote_any (s : ByteArray) (w : World) (hs : Sh w) (hsz : s.size ≤ 4194304) :
    Calls Tryz.prog 9 #[.string s] w fun e w' => e = .returned (.string ⟨(quote s.data.toList).toArray⟩) ∧ Below w.heap.size w w' := by
  have hb0 := Lib.fresh_isBuilder 60 5 w
  have HW := Lib.hid (WriteByte_any _ _ _ 34 _ hb0 (by simp) (by simp))
  clear hb0
  go_enter Tryz.func9, Tryz.ntmps9
  go_wp2_with fail
  refine HW.out.mono ?_
  rintro e w1 ⟨rfl, hb1, hbl⟩
  have HI : Hid (Lib.IsBuilder 60 5 w.heap.size w.heap.size (Lib.byteCells (34 :: toldUp s 0)) w1) := hb1
  have HB := Lib.hid (show Below w.heap.size w w1 from (bl_alloc w (.cells #[.pointer none, .slice none 0 0] 60)).trans hbl)
  clear hb1 hbl HW
  go_wp2_with fail
  go_loopw [8] (fun s8 wr => ∃ j : Nat, j ≤ s.size ∧ s8 = .int .i64 j ∧ Lib.IsBuilder 60 5 w.heap.size w.heap.size (Lib.byteCells (34 :: toldUp s j)) wr ∧ Below w.heap.size w wr) (fun s8 _ => s.size - (intOf s8).toNat)
  case atStart => exact ⟨0, Nat.zero_le _, rfl, HI.out, HB.out⟩
  case round =>
    obtain ⟨j, hj, rfl, hbu, hbl⟩ := hrel
    have hle := toldUp_le s j
    have hbn : (Lib.byteCells (34 :: toldUp s j)).length = (toldUp s j).length + 1 := by rw [Lib.byteCells_length]; rfl
    have HB2 := Lib.hid hbl
    have HU2 := Lib.hid hbu
    clear hbl hbu HI HB
    by_cases hlt : j < s.size
    · have hl1 : (j : Int) < (s.size : Int) := by omega
      have hd : decide ((j : Int) < (s.size : Int)) = true := decide_eq_true hl1
      have hsucc := toldUp_succ s j hlt
      obtain ⟨c, hcc⟩ : ∃ c, s[j]'hlt = c := ⟨_, rfl⟩
      rw [hcc] at hsucc
      have w5 : IntKind.i64.wrap ((j : Int) + 1) = (j : Int) + 1 := wrap_in _ (by omega) (by omega)
      by_cases h34 : c = 34
      · have HW1 := Lib.hid (WriteByte_any _ _ _ 92 _ HU2.out (by omega) HB2.out.size)
        have HS := Lib.hid hsucc
        subst h34
        clear hsucc
        go_wp2_with fail
        refine HW1.out.mono ?_
        rintro e w2 ⟨rfl, hb2, hbl2⟩
        have HB3 := Lib.hid (HB2.out.trans hbl2)
        have HW2 := Lib.hid (WriteByte_any _ _ _ 34 _ hb2 (by rw [List.length_append, hbn]; simp; omega) HB3.out.size)
        clear hb2 hbl2
        go_wp2_with fail
        refine HW2.out.mono ?_
        rintro e w3 ⟨rfl, hb3, hbl3⟩
        have HU3 : Hid (Lib.IsBuilder 60 5 w.heap.size w.heap.size (Lib.byteCells (34 :: toldUp s (j + 1))) w3) := by
          show Lib.IsBuilder _ _ _ _ _ _
          rw [HS.out]
          simpa [Lib.byteCells, quoB] using hb3
        have HB4 := Lib.hid (HB3.out.trans hbl3)
        clear hb3 hbl3
        go_wp2_with fail
        go_roundw
        case rel => exact ⟨j + 1, by omega, by go_num, HU3.out, HB4.out⟩
        case measure => simp [intOf]; omega
      · have h34' : ¬ c.toNat = 34 := fun e => h34 (by rw [← UInt8.toNat_inj]; exact e)
        have n34 : ¬ (c.toNat : Int) = 34 := by omega
        have e34 : ((c.toNat : Int) == 34) = false := by simpa using n34
        have hq : quoB c = toldB c := by unfold quoB; rw [if_neg h34]
        rw [hq] at hsucc
        have h4 : (toldB c).length ≤ 4 := by rw [← hq]; exact quoB_le c
        have HS := Lib.hid hsucc
        have HTO := Lib.hid (fun W (hb : Below w.heap.size w W) => told_any c W (hs.to hb))
        clear hsucc hq
        go_wp2_with fail
        refine (HTO.out _ HB2.out).mono ?_
        rintro e w2 ⟨rfl, hbl2⟩
        have HB3 := Lib.hid (bl_to HB2.out hbl2)
        have hU3 := builder_to HU2.out hbl2
        have htl : (⟨(toldB c).toArray⟩ : ByteArray).size = (toldB c).length := List.size_toArray
        have HW1 := Lib.hid (WriteString_any _ _ _ ⟨(toldB c).toArray⟩ _ hU3 (by rw [htl]; omega) HB3.out.size)
        clear hbl2 hU3
        go_wp2_with fail
        refine HW1.out.mono ?_
        rintro e w3 ⟨rfl, hb3, hbl3⟩
        have HU4 : Hid (Lib.IsBuilder 60 5 w.heap.size w.heap.size (Lib.byteCells (34 :: toldUp s (j + 1))) w3) := by
          show Lib.IsBuilder _ _ _ _ _ _
          rw [HS.out]
          simpa [Lib.byteCells, Lib.strCells] using hb3
        have HB4 := Lib.hid (HB3.out.trans hbl3)
        clear hb3 hbl3
        go_wp2_with fail
        go_roundw
        case rel => exact ⟨j + 1, by omega, by go_num, HU4.out, HB4.out⟩
        case measure => simp [intOf]; omega
    · have hl1 : ¬ (j : Int) < (s.size : Int) := by omega
      have hd : decide ((j : Int) < (s.size : Int)) = false := decide_eq_false hl1
      have HW1 := Lib.hid (WriteByte_any _ _ _ 34 _ HU2.out (by omega) HB2.out.size)
      obtain rfl : j = s.size := by omega
      go_wp2_with fail
      refine HW1.out.mono ?_
      rintro e w2 ⟨rfl, hb2, hbl2⟩
      have HU3 : Hid (Lib.IsBuilder 60 5 w.heap.size w.heap.size (Lib.byteCells (quote s.data.toList)) w2) := by
        show Lib.IsBuilder _ _ _ _ _ _
        have e : quote s.data.toList = (34 :: toldUp s s.size) ++ [34] := by
          unfold quote toldUp
          rw [List.take_of_length_le (by simp)]
          rfl
        rw [e]
        simpa [Lib.byteCells] using hb2
      have HB3 := Lib.hid (HB2.out.trans hbl2)
      clear hb2 hbl2
      have HST := Lib.hid (Tryz.Builder_String_any _ _ _ _ HU3.out HB3.out.size)
      go_wp2_with fail
      refine HST.out.mono ?_
      rintro e w3 ⟨rfl, hbl3⟩
      have HB4 := Lib.hid (HB3.out.trans hbl3)
      clear hbl3
      go_wp2_with fail
      go_ret
      exact ⟨rfl, HB4.out⟩
end Go.Proofs.YtlhppbendpnkeaaGreatDoor
