/- Words: places in texts; rows of texts; size; Right of nothing. -/
import Derived.Test.YtlhppbendpnkeaaGreatDoorMB
import Derived.Test.YtlhppbendpnkeaaGreatDoorShelf
import Derived.Laws.RangeAny
import Derived.Laws.RangeString
import Derived.WalkMore
import Derived.Deep.MidRow
namespace Go.Proofs.YtlhppbendpnkeaaGreatDoor
set_option linter.unusedSimpArgs false
set_option linter.unusedVariables false
open Go.RowKit

theorem wrap8_in (n : Int) (h1 : 0 ≤ n) (h2 : n < 256) : IntKind.u8.wrap n = n := IntWalk.u8_in n ⟨h1, by omega⟩
theorem at_drop {s : ByteArray} {i : Nat} {l r : Bs} (h : s.data.toList.drop i = l ++ r) : i + l.length + r.length = s.size ∨ (i > s.size ∧ l = [] ∧ r = []) := by
  have := congrArg List.length h
  rw [List.length_drop, List.length_append] at this
  have e : s.data.toList.length = s.size := by simp
  rw [e] at this
  by_cases hi : i ≤ s.size
  · left; omega
  · right
    have h1 : l.length = 0 := by omega
    have h2 : r.length = 0 := by omega
    exact ⟨by omega, List.eq_nil_of_length_eq_zero h1, List.eq_nil_of_length_eq_zero h2⟩
theorem at_get {s : ByteArray} {i j : Nat} {l r : Bs} (h : s.data.toList.drop i = l ++ r) (hj : j < l.length) (hs : i + j < s.size) : s[i + j]'hs = l[j] := by
  have h1 : (s.data.toList.drop i)[j]? = some l[j] := by rw [h, List.getElem?_append_left hj]; simp
  rw [List.getElem?_drop] at h1
  have h2 : s.data.toList[i + j]? = some (s[i + j]'hs) := by
    rw [List.getElem?_eq_getElem (by simpa using hs)]
    simp
    rfl
  rw [h2] at h1
  exact Option.some.inj h1

/-- A row of bytes of one's own, as a text. -/
theorem conv_row {w : World} {B n : Nat} {v : Value} {l : Bs} (h : w.ownsRow B 5 1 v n (Lib.byteCells l)) : (convert 44 9 v).run Tryz.prog w = .ok (.string ⟨l.toArray⟩) w := by
  obtain ⟨hl, h | ⟨g, cap, cur, rfl, hb, hg, hn, hc, hs, ht⟩⟩ := h
  · obtain ⟨rfl, rfl⟩ := h
    rw [Lib.byteCells_length] at hl
    have : l = [] := List.eq_nil_of_length_eq_zero (by omega)
    subst this
    exact run_convert_bytes_nil (w := w) 44 5 Tryz.underlying44 Tryz.underlying5 0 0 9 Tryz.underlying9
  · rw [Lib.byteCells_length] at hl
    have hnl : n = l.length := by omega
    subst hnl
    refine run_convert_bytes_back w 44 9 5 ⟨g, 0, none⟩ cap l Tryz.underlying44 Tryz.underlying5 Tryz.underlying9 (fun j hj => ?_)
    have e : (⟨g, 0, none⟩ : Addr).add j = ⟨g, j, none⟩ := by unfold Addr.add; split <;> simp_all
    rw [e]
    have h1 : (Lib.byteCells l)[j]? = some (.int .u8 (l[j].toNat : Int)) := by simp [Lib.byteCells, hj]
    rw [← ht, List.getElem?_take] at h1
    split at h1
    · simp [World.cell?, hg]
      simpa using h1
    · cases h1

theorem row_shape {w : World} {B n sz : Nat} {e : TypeId} {v : Value} {xs : List Value} (h : w.ownsRow B e sz v n xs) : ∃ ao cap, v = .slice ao n cap := by
  obtain ⟨_, h | ⟨g, cap, cur, rfl, _⟩⟩ := h
  · obtain ⟨rfl, rfl⟩ := h; exact ⟨_, _, rfl⟩
  · exact ⟨_, _, rfl⟩
theorem emp_toList (s : ByteArray) : (s.toList == ([] : List UInt8)) = decide (s.size = 0) := by
  rw [ByteArray.toList_eq]
  have : s.size = s.data.toList.length := by simp
  rw [this]
  cases s.data.toList <;> simp
theorem emp_toList2 (s : ByteArray) : s.toList.isEmpty = decide (s.size = 0) := by
  rw [← emp_toList]
  cases s.toList <;> rfl

theorem flat_ge (t : Bs) : t.length ≤ (t.flatMap quoB).length := by
  induction t with
  | nil => simp
  | cons a r ih => rw [List.flatMap_cons, List.length_append, List.length_cons]; have := quoB_pos a; omega

structure Bel (W0 : World) where
  val : World
  below : Below W0.heap.size W0 val
instance (W0 : World) : Nonempty (Bel W0) := ⟨⟨W0, Below.refl _ _⟩⟩
/-- A region all of whose operations and callees leave what there was as it was: walked once, in the text's order. -/
theorem region_bel {id : Nat} {Q : Exit → Act → World → Prop} {a : Act} {w : World} {l : List Oper} (W0 : World) (hw : Below W0.heap.size W0 w) (hm : Tryz.prog.follows .mixedOrders = true) (hB : Region.lexB .any l.toArray = true)
    (h : wpQuiet Tryz.prog l.toArray (fun w' => ∃ m : Bel W0, w' = m.val) (fun a' => ∀ m : Bel W0, Q .normal a' m.val) l a) : (Code.region id l.toArray true).wp Tryz.prog Q a w := by
  refine wp_region_quiet (C := fun w' => ∃ m : Bel W0, w' = m.val) hm hB ⟨⟨_, hw.drew⟩, rfl⟩ ?_
  have e : (fun a' => ∀ w', (∃ m : Bel W0, w' = m.val) → Q .normal a' w') = fun a' => ∀ m : Bel W0, Q .normal a' m.val := by
    funext a'
    exact propext ⟨fun h m => h _ ⟨m, rfl⟩, fun h w' ⟨m, hm⟩ => by rw [hm]; exact h m⟩
  rw [e]
  exact h
theorem calls_bel {f : FuncId} {args : Array Value} {v : Value} {W0 : World} (m : Bel W0) (h : Calls Tryz.prog f args m.val fun e w' => e = .returned v ∧ Below m.val.heap.size m.val w') : Calls Tryz.prog f args m.val fun e w' => e = .returned v ∧ ∃ m' : Bel W0, w' = m'.val :=
  h.mono fun _ w' hp => ⟨hp.1, ⟨w', bl_to m.below hp.2⟩, rfl⟩
abbrev bsL (l : List ByteArray) : List Bs := l.map (fun s => s.data.toList)
/-- v shows the texts l. -/
def Tx (w : World) (v : Value) (l : List ByteArray) : Prop := ∃ ao cap, v = .slice ao l.length cap ∧ l.length ≤ cap ∧ (0 < l.length → ∃ b off, ao = some ⟨b, off, none⟩ ∧ b < w.heap.size ∧ ∀ i (hi : i < l.length), w.cell? ⟨b, off + i, none⟩ = some (.string l[i]))

theorem Tx.to {w w' : World} {v : Value} {l : List ByteArray} (h : Tx w v l) (hb : Below w.heap.size w w') : Tx w' v l := by
  obtain ⟨ao, cap, rfl, hcap, h2⟩ := h
  refine ⟨ao, cap, rfl, hcap, fun hn => ?_⟩
  obtain ⟨b, off, rfl, hl, hc⟩ := h2 hn
  exact ⟨b, off, rfl, Nat.lt_of_lt_of_le hl hb.size, fun i hi => (hb.cell (p := ⟨b, off + i, none⟩) hl).trans (hc i hi)⟩
theorem Tx.ofRd {w : World} {v : Value} {l : List ByteArray} (h : Rd w v l.length 1 (l.map Value.string)) : Tx w v l := by
  obtain ⟨_, ao, cap, rfl, hcap, h2⟩ := h
  refine ⟨ao, cap, rfl, hcap, fun hn => ?_⟩
  obtain ⟨b, off, rfl, hl, hc⟩ := h2 hn
  exact ⟨b, off, rfl, hl, fun i hi => hc i _ (by simp [hi])⟩
theorem Tx.ofOwn {w : World} {base : Nat} {v : Value} {l : List ByteArray} {e : TypeId} (h : w.ownsRow base e 1 v l.length (l.map Value.string)) : Tx w v l := by
  rcases h.2 with ⟨rfl, h0⟩ | ⟨g, cap, cur, rfl, hb, hgg, hcap, rest⟩
  · exact ⟨none, 0, by rw [h0], by omega, fun h => by omega⟩
  · refine ⟨_, cap, rfl, hcap, fun _ => ⟨g, 0, rfl, lt_blk hgg, fun i hi => ?_⟩⟩
    have hc := World.ownsRow.cells h (g := g) rfl i (.string l[i]) (by simp [hi])
    have ea : (⟨g, 0, none⟩ : Addr).add i = ⟨g, 0 + i, none⟩ := by unfold Addr.add; split <;> simp_all
    rwa [ea] at hc


def sumL (l : List ByteArray) : Nat := (l.map (fun s => 1 + s.size)).sum
theorem sumL_succ (l : List ByteArray) (j : Nat) (h : j < l.length) : sumL (l.take (j + 1)) = sumL (l.take j) + (1 + l[j].size) := by
  unfold sumL
  rw [List.take_succ_eq_append_getElem h, List.map_append, List.sum_append]
  simp
theorem sumL_mono (l : List ByteArray) (j : Nat) : sumL (l.take j) ≤ sumL l := by
  have : sumL l = sumL (l.take j) + sumL (l.drop j) := by
    unfold sumL
    rw [← List.sum_append, ← List.map_append, List.take_append_drop]
  omega
theorem sumL_len (l : List ByteArray) : l.length ≤ sumL l := by
  unfold sumL
  induction l with
  | nil => simp
  | cons a r ih => rw [List.map_cons, List.sum_cons, List.length_cons]; omega

set_option maxRecDepth 8000 in
set_option maxHeartbeats 3200000 in
theorem size_any (v : Value) (l : List ByteArray) (w : World) (ht : Tx w v l) (hsz : sumL l ≤ 4611686018427387904) :
    Calls Tryz.prog 26 #[v] w fun e w' => e = .returned (.int .i64 ((max (sumL l) 1 : Nat) : Int)) ∧ w = w' := by
  obtain ⟨ao, cap, rfl, -, hT⟩ := ht
  have HT := Lib.hid hT
  have hlen := sumL_len l
  clear hT
  go_enter Tryz.func26, Tryz.ntmps26
  go_wp2_with fail
  go_loopw [3, 8] (fun s3 s8 wr => ∃ j : Nat, j ≤ l.length ∧ s3 = .int .i64 (sumL (l.take j) : Nat) ∧ s8 = .int .i64 j ∧ w = wr) (fun _ s8 _ => l.length - (intOf s8).toNat)
  case atStart => exact ⟨0, Nat.zero_le _, rfl, rfl, rfl⟩
  case round =>
    obtain ⟨j, hj, rfl, rfl, rfl⟩ := hrel
    have hm := sumL_mono l j
    by_cases hlt : j < l.length
    · obtain ⟨b, off, rfl, hbl, hc⟩ := HT.out (by omega)
      have hcj := hc j hlt
      have hsu := sumL_succ l j hlt
      have hm2 := sumL_mono l (j + 1)
      obtain ⟨x, hx⟩ : ∃ x, l[j] = x := ⟨_, rfl⟩
      rw [hx] at hcj hsu
      obtain ⟨a, ha⟩ : ∃ a, sumL (l.take j) = a := ⟨_, rfl⟩
      obtain ⟨c, hcc⟩ : ∃ c, sumL (l.take (j + 1)) = c := ⟨_, rfl⟩
      rw [ha, hcc] at hsu
      rw [ha] at hm
      rw [hcc] at hm2
      rw [ha]
      have HCC := Lib.hid hcc
      have g1 : (j : Int) < (l.length : Int) := by omega
      have d1 : decide ((j : Int) < (l.length : Int)) = true := decide_eq_true g1
      have w1 : IntKind.i64.wrap (1 + (x.size : Int)) = 1 + (x.size : Int) := wrap_in _ (by omega) (by omega)
      have w2 : IntKind.i64.wrap ((a : Int) + (1 + (x.size : Int))) = (c : Int) := by rw [show (a : Int) + (1 + (x.size : Int)) = (c : Int) by omega]; exact wrap_in _ (by omega) (by omega)
      have w3 : IntKind.i64.wrap ((j : Int) + 1) = (j : Int) + 1 := wrap_in _ (by omega) (by omega)
      clear hc hsu hx ha hcc HT
      go_wp2_with fail
      go_roundw
      case rel => exact ⟨j + 1, by omega, by rw [HCC.out], by go_num, by first | rfl | trivial⟩
      case measure => simp [intOf]; omega
    · obtain rfl : j = l.length := by omega
      have d1 : decide ((l.length : Int) < (l.length : Int)) = false := decide_eq_false (by omega)
      rw [List.take_length] at hm ⊢
      go_wp2_with fail
      go_ret
      exact ⟨ret_int (by omega), rfl⟩


set_option maxRecDepth 8000 in
set_option maxHeartbeats 3200000 in
theorem f27_nil (w : World) :
    Calls Tryz.prog 65 #[.slice none 0 0, .func (.func 38) #[] #[]] w fun e w' => e = .returned (.int .i64 (-1)) ∧ w = w' := by
  go_enter Tryz.func65, Tryz.ntmps65
  go_wp2_with fail
  go_loopw [8] (fun s8 wr => s8 = .int .i64 0 ∧ w = wr) (fun _ _ => 0)
  case atStart => exact ⟨rfl, rfl⟩
  case round =>
    obtain ⟨rfl, rfl⟩ := hrel
    go_wp2_with fail
    go_ret
    exact ⟨rfl, rfl⟩
theorem f14_nil (w : World) :
    Calls Tryz.prog 37 #[.slice none 0 0, .func (.func 38) #[] #[]] w fun e w' => e = .returned (.bool false) ∧ w = w' := by
  have HC := Lib.hid (f27_nil w)
  go_enter Tryz.func37, Tryz.ntmps37
  go_wp2_with fail
  refine HC.out.mono ?_
  rintro e w' ⟨rfl, rfl⟩
  go_wp2_with fail
  go_ret
  exact ⟨rfl, rfl⟩
theorem nilTx (w : World) : Tx w (.slice none 0 0) [] := ⟨none, 0, rfl, by simp, fun h => by simp at h⟩
theorem Right_nil (w : World) :
    Calls Tryz.prog 22 #[.slice none 0 0] w fun e w' => e = .returned (.bool true) ∧ Below w.heap.size w w' := by
  have HS := Lib.hid (size_any (.slice none 0 0) [] w (nilTx w) (by decide))
  have HF := Lib.hid (f14_nil w)
  go_enter Tryz.func22, Tryz.ntmps22
  go_wp2_with fail
  refine HS.out.mono ?_
  rintro e w' ⟨rfl, rfl⟩
  go_wp2_with fail
  refine HF.out.mono ?_
  rintro e w' ⟨rfl, rfl⟩
  go_wp2_with fail
  go_ret
  exact ⟨rfl, Below.refl _ _⟩
end Go.Proofs.YtlhppbendpnkeaaGreatDoor
