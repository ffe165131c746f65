/- strings.ContainsAny of a slash and a nul, at every text. -/
import Derived.Test.YtnfnjobgkpefdaaDoorM
import Derived.Lib.OthersKept
namespace Go.Proofs.YtnfnjobgkpefdaaDoor
set_option linter.unusedSimpArgs false
set_option linter.unusedVariables false
open Go.RowKit

theorem get!_eq (s : ByteArray) (i : Nat) (h : i < s.size) : s.get! i = s[i]'h := by
  simp [ByteArray.get!, getElem!_pos, h]
  rfl
/-- A rune that does not begin with an ASCII byte: none of its bytes is one, nor is it. -/
theorem decode_wide (s : ByteArray) (i : Nat) (h : i < s.size) (hw : 128 ≤ (s[i]'h).toNat) :
    128 ≤ (Utf8.decode s i).1 ∧ 1 ≤ (Utf8.decode s i).2 ∧ i + (Utf8.decode s i).2 ≤ s.size ∧ ∀ j (hj : j < s.size), i ≤ j → j < i + (Utf8.decode s i).2 → 128 ≤ (s[j]'hj).toNat := by
  have e0 : s.get! (i + 0) = s[i]'h := get!_eq s i h
  have one : ∀ j (hj : j < s.size), i ≤ j → j < i + 1 → 128 ≤ (s[j]'hj).toNat := fun j hj h1 h2 => by
    obtain rfl : j = i := by omega
    exact hw
  have c : ∀ k, (decide (i + k < s.size) && (s.get! (i + k)).toNat / 64 == 2) = true → ∃ hk : i + k < s.size, 128 ≤ (s[i + k]'hk).toNat := fun k hk => by
    simp only [Bool.and_eq_true, decide_eq_true_eq, beq_iff_eq] at hk
    rw [get!_eq s _ hk.1] at hk
    exact ⟨hk.1, by omega⟩
  have hr : 128 ≤ Utf8.runeError := by decide
  have nw : ¬ (s[i]'h).toNat < 128 := by omega
  unfold Utf8.decode
  simp only [e0, nw, if_false]
  split
  · rename_i h1
    simp only [Bool.and_eq_true] at h1
    obtain ⟨k1, v1⟩ := c 1 (by simpa using h1.2)
    split
    · refine ⟨by assumption, by simp, by simp; omega, fun j hj h2 h3 => ?_⟩
      simp at h3
      rcases (show j = i ∨ j = i + 1 by omega) with rfl | rfl
      · exact hw
      · exact v1
    · exact ⟨hr, by simp, by simp; omega, one⟩
  split
  · rename_i h1
    simp only [Bool.and_eq_true] at h1
    obtain ⟨k1, v1⟩ := c 1 (by simpa using h1.1.2)
    obtain ⟨k2, v2⟩ := c 2 (by simpa using h1.2)
    split
    · rename_i h4
      simp only [Bool.and_eq_true, decide_eq_true_eq] at h4
      refine ⟨by simp only; omega, by simp, by simp; omega, fun j hj h2 h3 => ?_⟩
      simp at h3
      rcases (show j = i ∨ j = i + 1 ∨ j = i + 2 by omega) with rfl | rfl | rfl
      · exact hw
      · exact v1
      · exact v2
    · exact ⟨hr, by simp, by simp; omega, one⟩
  split
  · rename_i h1
    simp only [Bool.and_eq_true] at h1
    obtain ⟨k1, v1⟩ := c 1 (by simpa using h1.1.1.2)
    obtain ⟨k2, v2⟩ := c 2 (by simpa using h1.1.2)
    obtain ⟨k3, v3⟩ := c 3 (by simpa using h1.2)
    split
    · rename_i h4
      simp only [Bool.and_eq_true, decide_eq_true_eq] at h4
      refine ⟨by simp only; omega, by simp, by simp; omega, fun j hj h2 h3 => ?_⟩
      simp at h3
      rcases (show j = i ∨ j = i + 1 ∨ j = i + 2 ∨ j = i + 3 by omega) with rfl | rfl | rfl | rfl
      · exact hw
      · exact v1
      · exact v2
      · exact v3
    · exact ⟨hr, by simp, by simp; omega, one⟩
  · exact ⟨hr, by simp, by simp; omega, one⟩

/-- A text that holds a slash or a nul. -/
def hasSN (l : Bs) : Bool := l.any (fun b => b == 47 || b == 0)
theorem snc (x : UInt8) : ([47, 0] : Bs).contains x = (x == 47 || x == 0) := by
  simp only [List.contains, List.elem_cons, List.elem_nil, Bool.or_false]
  cases x == 47 <;> cases x == 0 <;> rfl
theorem hasSN_none {l : Bs} (h : Lib.NoAny l [47, 0] l.length) : hasSN l = false := by
  unfold hasSN
  rw [List.any_eq_false]
  intro x hx
  obtain ⟨j, hj, rfl⟩ := List.mem_iff_getElem.1 hx
  have := h j _ hj (List.getElem?_eq_getElem hj)
  rw [snc] at this
  simp [this]
theorem hasSN_hit {l : Bs} {i : Nat} {x : UInt8} (hx : l[i]? = some x) (hc : ([47, 0] : Bs).contains x = true) : hasSN l = true := by
  unfold hasSN
  rw [List.any_eq_true]
  exact ⟨x, List.mem_of_getElem? hx, by rw [← snc]; exact hc⟩
theorem hasSN_indexAny : ∀ l : Bs, decide (0 ≤ Lib.indexAny l [47, 0]) = hasSN l := by
  intro l
  induction l with
  | nil => rfl
  | cons b l ih =>
    unfold Lib.indexAny
    have e : hasSN (b :: l) = (([47, 0] : Bs).contains b || hasSN l) := by rw [snc]; unfold hasSN; rw [List.any_cons]
    rw [e, ← ih]
    have hge := Lib.indexAny_ge [47, 0] l
    cases hcb : ([47, 0] : Bs).contains b
    · simp only [Bool.false_eq_true, if_false, Bool.false_or]
      by_cases h1 : Lib.indexAny l [47, 0] = -1
      · simp [h1]
      · have h2 : (Lib.indexAny l [47, 0] == -1) = false := by simpa using h1
        rw [h2]
        simp only [Bool.false_eq_true, if_false]
        exact decide_eq_decide.2 (by omega)
    · simp
theorem NoAny_wide {s : ByteArray} {i k : Nat} (h : Lib.NoAny s.data.toList [47, 0] i) (hw : ∀ j (hj : j < s.size), i ≤ j → j < i + k → 128 ≤ (s[j]'hj).toNat) : Lib.NoAny s.data.toList [47, 0] (i + k) := fun j b hj hb => by
  by_cases hji : j < i
  · exact h j b hji hb
  · have hjs : j < s.size := by
      have := (List.getElem?_eq_some_iff.1 hb).1
      simpa using this
    have h1 := hw j hjs (by omega) hj
    rw [Lib.data_getElem? s j hjs] at hb
    obtain rfl := Option.some.inj hb
    rw [snc]
    have n1 : ¬ s[j] = 47 := fun e => by rw [e] at h1; exact absurd h1 (by decide)
    have n2 : ¬ s[j] = 0 := fun e => by rw [e] at h1; exact absurd h1 (by decide)
    simp [n1, n2]

theorem rune_wide (s : ByteArray) (hs : s = sn) (r : Nat) (w : World) (h0 : 128 ≤ r) :
    Calls Tryd.prog 40 #[.string s, .int .i32 (r : Int)] w fun e w' => e = .returned (.int .i64 (-1)) ∧ Below w.heap.size w w' := by
  by_cases h1 : (r : Int) = 65533
  · rw [h1, hs]; exact rune_err w
  · cases hv : Lib.validRune (r : Int) with
    | false => rw [hs]; exact rune_bad _ w (by omega) h1 hv
    | true => exact rune_good s hs _ w (by omega) h1 hv
theorem rune_ascii (s : ByteArray) (hs : s = sn) (x : UInt8) (w : World) (h0 : x.toNat < 128) :
    Calls Tryd.prog 40 #[.string s, .int .i32 (x.toNat : Int)] w fun e w' => e = .returned (.int .i64 (Lib.indexByte [47, 0] x)) ∧ Below w.heap.size w w' := by
  subst hs
  refine (Tryd.strings_IndexRune_ascii sn (x.toNat : Int) w (by omega) (by omega)).mono ?_
  rintro e w' ⟨rfl, rfl⟩
  refine ⟨?_, Below.refl _ _⟩
  have hback : ((x.toNat : Int)).toNat.toUInt8 = x := by simp
  rw [hback]

set_option maxRecDepth 8000 in
set_option maxHeartbeats 3200000 in
theorem IndexAny_short (s cs : ByteArray) (w : World) (hcs : cs = sn) (h8 : s.size ≤ 8) :
    Calls Tryd.prog 34 #[.string s, .string cs] w fun e w' => (∃ n : Int, e = .returned (.int .i64 n) ∧ decide (0 ≤ n) = hasSN s.data.toList) ∧ Below w.heap.size w w' := by
  have hemp : cs.toList.isEmpty = false := by subst hcs; rw [Lib.toList_data]; rfl
  have hemp2 : (cs.toList == []) = false := by subst hcs; rw [Lib.toList_data]; rfl
  have hn1 : ((cs.size : Int) == 1) = false := by subst hcs; rfl
  have hn2 : ¬ (cs.size : Int) = 1 := by subst hcs; decide
  have h8z : decide ((8 : Int) < (s.size : Int)) = false := decide_eq_false (by omega)
  have HW := Lib.hid (fun r w h => rune_wide cs hcs r w h)
  have HA := Lib.hid (fun r w h => rune_ascii cs hcs r w h)
  clear hcs
  go_enter Tryd.func34, Tryd.ntmps34
  go_wp2_with (go_at_call 41; refine (Tryd.strings_shouldUseASCIISet _ _).mono ?_; rintro e w' ⟨rfl, hw⟩; rw [hw, h8z])
  go_loopg [9, 10] s.size (fun g _ _ wx => ∃ i : Nat, i + g = s.size ∧ wx.heap[w.heap.size]? = some (.stringIter s i) ∧ Below w.heap.size w wx ∧ Lib.NoAny s.data.toList [47, 0] i)
  case atStart => exact ⟨0, by omega, World.iter_heap w s 0, bl_iter _ _ _, Lib.NoAny.zero _ _⟩
  case round =>
    obtain ⟨i, hig, hk, hbl, hno⟩ := hrel
    have HN := Lib.hid hno
    have HB := Lib.hid hbl
    clear hno hbl
    by_cases hi : i < s.size
    · obtain ⟨x, hx⟩ : ∃ x : UInt8, s[i]'hi = x := ⟨_, rfl⟩
      have hxl : s.data.toList[i]? = some x := by rw [← hx]; exact Lib.data_getElem? s i hi
      have HX := Lib.hid hxl
      by_cases hx128 : x.toNat < 128
      · have hnx := fun ty => Lib.run_next_ascii_at (P := Tryd.prog) wr w.heap.size s i ty hk hi (by rw [hx]; exact hx128)
        have hnx' : ∀ ty, (Instr.next (.pointer (some ⟨w.heap.size, 0, none⟩)) true ty).run Tryd.prog wr = .ok (.tuple #[.bool true, .int .i64 i, .int .i32 (x.toNat : Int)]) (wr.iterAt w.heap.size s (i + 1)) := fun ty => by rw [hnx ty, hx]
        have hk2 := Lib.iterAt_heap wr w.heap.size s i (i + 1) hk
        have hb2 := Lib.below_iterAt HB.out (Nat.le_refl _) s (i + 1)
        obtain ⟨W2, hW2⟩ : ∃ W2, wr.iterAt w.heap.size s (i + 1) = W2 := ⟨_, rfl⟩
        rw [hW2] at hk2 hb2
        rw [hW2] at hnx'
        have HC := Lib.hid (HA.out x W2 hx128)
        have HK := Lib.hid hk2
        have HB2 := Lib.hid hb2
        have hcon := Lib.contains_iff_indexByte [47, 0] x
        clear hnx hk2 hb2 hx hxl hk hW2
        obtain ⟨n, hn⟩ : ∃ n, Lib.indexByte [47, 0] x = n := ⟨_, rfl⟩
        rw [hn] at HC hcon
        cases hin : ([47, 0] : Bs).contains x
        · rw [hin] at hcon
          have HI := Lib.hid hin
          have dn : decide (0 ≤ n) = false := hcon.symm
          have nn : ¬ 0 ≤ n := of_decide_eq_false dn
          clear hcon hin
          go_wp2_with fail
          refine HC.out.mono ?_
          rintro e w3 ⟨rfl, hb3⟩
          have HB3 := Lib.hid (bl_to HB2.out hb3)
          have hk3 := (hb3.block w.heap.size (lt_blk HK.out)).trans HK.out
          have HK3 := Lib.hid hk3
          clear hb3 hk3
          go_wp2_with fail
          go_roundg (s.size - (i + 1))
          case measure => omega
          case rel => exact ⟨i + 1, by omega, HK3.out, HB3.out, HN.out.succ HX.out HI.out⟩
        · rw [hin] at hcon
          have HI := Lib.hid hin
          have dn : decide (0 ≤ n) = true := hcon.symm
          have nn : 0 ≤ n := of_decide_eq_true dn
          clear hcon hin
          go_wp2_with fail
          refine HC.out.mono ?_
          rintro e w3 ⟨rfl, hb3⟩
          have HB3 := Lib.hid (bl_to HB2.out hb3)
          clear hb3
          go_wp2_with fail
          go_ret
          exact ⟨⟨_, rfl, by rw [hasSN_hit HX.out HI.out]; exact decide_eq_true (by omega)⟩, HB3.out⟩
      · have hw := decode_wide s i hi (by rw [hx]; omega)
        obtain ⟨r, hr⟩ : ∃ r, (Utf8.decode s i).1 = r := ⟨_, rfl⟩
        obtain ⟨d, hd⟩ : ∃ d, (Utf8.decode s i).2 = d := ⟨_, rfl⟩
        have hnx := fun ty => Lib.run_next_any_at (P := Tryd.prog) wr w.heap.size s i ty hk hi
        rw [hr, hd] at hw hnx
        obtain ⟨q1, q2, q3, q4⟩ := hw
        have hk2 := Lib.iterAt_heap wr w.heap.size s i (i + d) hk
        have hb2 := Lib.below_iterAt HB.out (Nat.le_refl _) s (i + d)
        obtain ⟨W2, hW2⟩ : ∃ W2, wr.iterAt w.heap.size s (i + d) = W2 := ⟨_, rfl⟩
        rw [hW2] at hk2 hb2 hnx
        have HC := Lib.hid (HW.out r W2 q1)
        have HK := Lib.hid hk2
        have HB2 := Lib.hid hb2
        have HN2 := Lib.hid (NoAny_wide HN.out q4)
        clear hk2 hb2 hx hxl hk hW2 q4 hr hd
        go_wp2_with fail
        refine HC.out.mono ?_
        rintro e w3 ⟨rfl, hb3⟩
        have HB3 := Lib.hid (bl_to HB2.out hb3)
        have hk3 := (hb3.block w.heap.size (lt_blk HK.out)).trans HK.out
        have HK3 := Lib.hid hk3
        clear hb3 hk3
        go_wp2_with fail
        go_roundg (s.size - (i + d))
        case measure => omega
        case rel => exact ⟨i + d, by omega, HK3.out, HB3.out, HN2.out⟩
    · obtain rfl : i = s.size := by omega
      have hnx := fun ty => Lib.run_next_end_at (P := Tryd.prog) wr w.heap.size s s.size ty hk (by omega)
      clear hk
      go_wp2_with fail
      go_ret
      exact ⟨⟨_, rfl, by rw [hasSN_none (by rw [← Lib.size_eq]; exact HN.out)]; rfl⟩, HB.out⟩

theorem info75p : (Tryd.prog.info? 75).map (fun i => (i.zero, i.size)) = some (some (.agg (Array.replicate 256 (.bool false))), 256) := by kernel_rfl
theorem info75 : ∀ w, (zeroValue 75).run Tryd.prog w = .ok (.agg (Array.replicate 256 (.bool false))) w := (zero_of_info info75p).1

set_option maxRecDepth 8000 in
set_option maxHeartbeats 3200000 in
theorem ContainsAny_any (s cs : ByteArray) (w : World) (hcs : cs = sn) (hsz : s.size < 4294967281) :
    Calls Tryd.prog 28 #[.string s, .string cs] w fun e w' => e = .returned (.bool (hasSN s.data.toList)) ∧ Below w.heap.size w w' := by
  have key : Calls Tryd.prog 34 #[.string s, .string cs] w fun e w' => (∃ n : Int, e = .returned (.int .i64 n) ∧ decide (0 ≤ n) = hasSN s.data.toList) ∧ Below w.heap.size w w' := by
    by_cases h8 : s.size ≤ 8
    · exact IndexAny_short s cs w hcs h8
    · subst hcs
      refine (Tryd.strings_IndexAny_long info75 s sn w (by decide) (by omega) hsz (by decide) (fun j b hb => ?_)).mono ?_
      · rcases j with _ | _ | j
        · obtain rfl := Option.some.inj hb; decide
        · obtain rfl := Option.some.inj hb; decide
        · cases hb
      · rintro e w' ⟨rfl, rfl⟩
        exact ⟨⟨_, rfl, hasSN_indexAny _⟩, (bl_alloc _ _).trans ((bl_alloc _ _).mono (by simp))⟩
  have HK := Lib.hid key
  clear key hcs
  go_enter Tryd.func28, Tryd.ntmps28
  go_wp2_with fail
  refine HK.out.mono ?_
  rintro e w' ⟨⟨n, rfl, hn⟩, hb⟩
  have HB := Lib.hid hb
  clear hb
  go_wp2_with fail
  go_ret
  exact ⟨rfl, HB.out⟩
end Go.Proofs.YtnfnjobgkpefdaaDoor
