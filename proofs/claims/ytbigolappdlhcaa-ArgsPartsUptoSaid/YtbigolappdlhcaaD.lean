/- strings.IndexRune of a rune that is no ASCII byte, in the two bytes that a suffix may not hold. -/
import Derived.Test.YtbigolappdlhcaaC
namespace Go.Proofs.Ytbigolappdlhcaa
set_option linter.unusedSimpArgs false
set_option linter.unusedVariables false
open Go.RowKit

theorem quiet_add_same {P : Program} {f : FuncId} {args : Array Value} {w : World} {a n : Nat} {v : Value}
    (h : Calls P f args (w.drewN (a + n)) fun e w' => e = .returned v ∧ w' = w.drewN (a + n)) :
    Calls P f args (w.drewN (a + n)) fun e w'' => e = .returned v ∧ ∃ m, w'' = w.drewN (a + m) :=
  h.mono fun _ _ ⟨he, hm⟩ => ⟨he, n, hm⟩
abbrev bads : ByteArray := ⟨#[47, 0]⟩

theorem bl_iter (w : World) (s : ByteArray) (i : Nat) : Below w.heap.size w (w.iter s i) := bl_to (Below.refl _ _) ((Below.refl _ _).alloc (Nat.le_refl _) _)

set_option maxRecDepth 8000 in
set_option maxHeartbeats 1600000 in
theorem rune_err (w : World) : Calls Try.prog 63 #[.string bads, .int .i32 65533] w fun e w' => e = .returned (.int .i64 (-1)) ∧ Below w.heap.size w w' := by
  have n0 := fun ty => run_next_ascii (P := Try.prog) w bads 0 ty (by decide) (by decide)
  have n1 := fun ty => run_next_ascii (P := Try.prog) w bads 1 ty (by decide) (by decide)
  have n2 := fun ty => run_next_end (P := Try.prog) w bads 2 ty (by decide)
  simp only [show (bads[0]'(by decide)) = 47 from rfl, show (bads[1]'(by decide)) = 0 from rfl] at n0 n1
  go_enter Try.func63, Try.ntmps63
  go_wp2
  go_loopw [5, 6] (fun _ _ wx => ∃ i : Nat, i ≤ 2 ∧ wx = w.iter bads i) (fun _ _ wx => 2 - wx.iterPos w.heap.size)
  case atStart => exact ⟨0, by omega, rfl⟩
  case round =>
    obtain ⟨i, hi, rfl⟩ := hrel
    rcases (show i = 0 ∨ i = 1 ∨ i = 2 by omega) with rfl | rfl | rfl
    · go_wp2
      go_roundw
      case rel => exact ⟨1, by omega, rfl⟩
      case measure => simp
    · go_wp2
      go_roundw
      case rel => exact ⟨2, by omega, rfl⟩
      case measure => simp
    · go_wp2
      go_ret
      exact ⟨rfl, bl_iter _ _ _⟩

set_option maxRecDepth 8000 in
set_option maxHeartbeats 1600000 in
theorem rune_bad (r : Int) (w : World) (h : 128 ≤ r) (hv : Lib.validRune r = false) : Calls Try.prog 63 #[.string bads, .int .i32 r] w fun e w' => e = .returned (.int .i64 (-1)) ∧ Below w.heap.size w w' := by
  have h0 : (r == 65533) = false := by
    simp only [beq_eq_false_iff_ne, ne_eq]; rintro rfl; exact absurd hv (by decide)
  have h1 : (0 : Int) ≤ r := by omega
  have h2 : ¬ r < 128 := by omega
  go_enter Try.func63, Try.ntmps63
  go_wp2_with (go_at_call 77; refine (Try.utf8_ValidRune r _).mono ?_; rintro e w' ⟨rfl, rfl⟩)
  go_ret
  exact ⟨rfl, Below.refl _ _⟩

theorem indexByte_empty (c : UInt8) : Lib.indexByte (⟨#[]⟩ : ByteArray).data.toList c = -1 := rfl

set_option maxRecDepth 8000 in
set_option maxHeartbeats 1600000 in
theorem rune_ok (r : Int) (w : World) (h : 128 ≤ r) (hv : Lib.validRune r = true) (h3 : r ≠ 65533) : Calls Try.prog 63 #[.string bads, .int .i32 r] w fun e w' => e = .returned (.int .i64 (-1)) ∧ Below w.heap.size w w' := by
  have h0 : (r == 65533) = false := by simpa using h3
  have h1 : (0 : Int) ≤ r := by omega
  have h2 : ¬ r < 128 := by omega
  have hvv : Utf8.valid r = true := by
    simp only [Utf8.valid, Lib.validRune] at *
    have := of_decide_eq_true hv
    rcases this with h | h <;> simp <;> omega
  obtain ⟨e1, e2, e3⟩ := encode_facts r hvv h
  have e3' := e3 (by omega)
  clear e3 hvv h3
  obtain ⟨rs, hrs⟩ : ∃ rs, Utf8.encode r = rs := ⟨_, rfl⟩
  simp only [hrs] at e1 e2 e3'
  rcases (show rs.size = 2 ∨ 2 < rs.size by omega) with hs | hs
  · have HS := Lib.hid hs
    have hx : (rs.size : Int) - 1 = 1 := by omega
    have hz : (rs.size : Int) = 2 := by omega
    have hb : (1 : Nat) < rs.size := by omega
    have hx1 : ((bads[1]'(by decide)).toNat : Int) = 0 := rfl
    have hne : ((0 : Int) != ((rs[1]'hb).toNat : Int)) = true := by
      have : rs[1]'hb = rs[rs.size - 1]'(by omega) := by congr 1; omega
      rw [this]; simp; omega
    clear hx hz e3' HS e1 e2
    go_enter Try.func63, Try.ntmps63
    go_wp2_with (go_at_call 77; refine (Try.utf8_ValidRune r _).mono ?_; rintro e w' ⟨rfl, rfl⟩)
    go_step3
    go_wp2
    have hw2 : IntKind.i64.wrap 2 = 2 := by decide
    have hbz : bads.size = 2 := rfl
    go_loopw [9] (fun i wx => i = .int .i64 1 ∧ wx = w') (fun _ _ => 0)
    case atStart => exact ⟨rfl, rfl⟩
    case round =>
      obtain ⟨rfl, rfl⟩ := hrel
      go_wp2_with fail
      go_step3
      go_wp2_with fail
      go_quiet (fail)
      go_wp2_with fail
      go_quiet ((go_at_call 49; exact quiet_add_same (Try.strings_IndexByte _ _ _)))
      go_wp2_with fail
      rw [Exit.noGoto_ret]
      simp only [Exit.inBlock]
      rename_i Q2 K1 a1 n1 K2 a2 h2
      simp only [Q2, Exit.then, Exit.noGoto_ret, Exit.inBlock]
      go_ret
      exact ⟨rfl, below_drewN (Below.refl _ _) _⟩
  · have hz : ¬ ((rs.size : Int) - 1 < 2) := by omega
    go_enter Try.func63, Try.ntmps63
    go_wp2_with (go_at_call 77; refine (Try.utf8_ValidRune r _).mono ?_; rintro e w' ⟨rfl, rfl⟩)
    go_step3
    go_wp2
    go_loop [9] (fun i => i = .int .i64 ((rs.size : Int) - 1)) (fun _ => 0)
    case atStart => rfl
    case round =>
      subst hrel
      go_wp2
      go_ret
      exact ⟨rfl, Below.refl _ _⟩

theorem rune_any (r : Int) (w : World) (h : 128 ≤ r) : Calls Try.prog 63 #[.string bads, .int .i32 r] w fun e w' => e = .returned (.int .i64 (-1)) ∧ Below w.heap.size w w' := by
  by_cases h3 : r = 65533
  · subst h3; exact rune_err w
  · rcases Bool.eq_false_or_eq_true (Lib.validRune r) with hv | hv
    · exact rune_ok r w h hv h3
    · exact rune_bad r w h hv

theorem get_is (s : ByteArray) (i : Nat) (h : i < s.size) : s.get! i = s[i]'h := by
  simp [ByteArray.get!, getElem!_pos, h]
  rfl

theorem dec_bytes (s : ByteArray) (pos : Nat) (h : pos < s.size) (ha : 128 ≤ (s[pos]'h).toNat) :
    pos + (Utf8.decode s pos).2 ≤ s.size ∧ ∀ j (hj : j < s.size), pos ≤ j → j < pos + (Utf8.decode s pos).2 → 128 ≤ (s[j]'hj).toNat := by
  have hn : ¬ (s[pos]'h).toNat < 128 := by omega
  have key : ∀ k, (decide (pos + k < s.size) && (s.get! (pos + k)).toNat / 64 == 2) = true → ∃ hk : pos + k < s.size, 128 ≤ (s[pos + k]'hk).toNat := by
    intro k hk
    simp only [Bool.and_eq_true, decide_eq_true_eq, beq_iff_eq] at hk
    refine ⟨hk.1, ?_⟩
    rw [← get_is s _ hk.1]
    omega
  have one : pos + 1 ≤ s.size ∧ ∀ j (hj : j < s.size), pos ≤ j → j < pos + 1 → 128 ≤ (s[j]'hj).toNat := by
    refine ⟨by omega, fun j hj h1 h2 => ?_⟩
    obtain rfl : j = pos := by omega
    exact ha
  simp only [Utf8.decode, get_at s pos h, hn, if_false]
  split
  · rename_i h1
    simp only [Bool.and_eq_true] at h1
    obtain ⟨k1, b1⟩ := key 1 (by simpa [Bool.and_eq_true] using h1.2)
    split
    · refine ⟨by show pos + 2 ≤ _; omega, fun j hj h1 h2 => ?_⟩
      have h2 : j < pos + 2 := h2
      rcases (show j = pos ∨ j = pos + 1 by omega) with rfl | rfl
      · exact ha
      · exact b1
    · exact one
  · split
    · rename_i h1
      simp only [Bool.and_eq_true] at h1
      obtain ⟨k1, b1⟩ := key 1 (by simpa [Bool.and_eq_true] using h1.1.2)
      obtain ⟨k2, b2⟩ := key 2 (by simpa [Bool.and_eq_true] using h1.2)
      split
      · refine ⟨by show pos + 3 ≤ _; omega, fun j hj h1 h2 => ?_⟩
        have h2 : j < pos + 3 := h2
        rcases (show j = pos ∨ j = pos + 1 ∨ j = pos + 2 by omega) with rfl | rfl | rfl
        · exact ha
        · exact b1
        · exact b2
      · exact one
    · split
      · rename_i h1
        simp only [Bool.and_eq_true] at h1
        obtain ⟨k1, b1⟩ := key 1 (by simpa [Bool.and_eq_true] using h1.1.1.2)
        obtain ⟨k2, b2⟩ := key 2 (by simpa [Bool.and_eq_true] using h1.1.2)
        obtain ⟨k3, b3⟩ := key 3 (by simpa [Bool.and_eq_true] using h1.2)
        split
        · refine ⟨by show pos + 4 ≤ _; omega, fun j hj h1 h2 => ?_⟩
          have h2 : j < pos + 4 := h2
          rcases (show j = pos ∨ j = pos + 1 ∨ j = pos + 2 ∨ j = pos + 3 by omega) with rfl | rfl | rfl | rfl
          · exact ha
          · exact b1
          · exact b2
          · exact b3
        · exact one
      · exact one

theorem high_good {b : UInt8} (h : 128 ≤ b.toNat) : badB b = false := by
  simp only [badB, Bool.or_eq_false_iff, beq_eq_false_iff_ne, ne_eq]
  exact ⟨fun e => by rw [e] at h; revert h; decide, fun e => by rw [e] at h; revert h; decide⟩

/-- Bytes that are not ASCII are not bad. -/
theorem any_take_more (s : ByteArray) (i n : Nat) (h0 : (s.data.toList.take i).any badB = false) (hle : i + n ≤ s.size) (hb : ∀ j (hj : j < s.size), i ≤ j → j < i + n → 128 ≤ (s[j]'hj).toNat) : (s.data.toList.take (i + n)).any badB = false := by
  induction n with
  | zero => exact h0
  | succ n ih =>
    have h1 := ih (by omega) (fun j hj a b => hb j hj a (by omega))
    have hlt : i + n < s.size := by omega
    rw [show i + (n + 1) = i + n + 1 from rfl, any_take_succ _ _ (by simpa using hlt), h1]
    show (false || badB (s[i + n]'hlt)) = false
    rw [high_good (hb (i + n) hlt (by omega) (by omega))]; rfl

theorem indexByte_bads (b : UInt8) : decide (0 ≤ Lib.indexByte bads.data.toList b) = badB b := by
  rw [← Lib.contains_iff_indexByte]
  show [47, 0].contains b = badB b
  simp only [List.contains, List.elem, badB]
  cases h1 : b == 47 <;> cases h2 : b == 0 <;> simp

/-- What IndexAny answers: a number that is not negative just where there is a bad byte. -/
def IdxPost (s : ByteArray) (w : World) (e : Ending) (w' : World) : Prop := ∃ k : Int, e = .returned (.int .i64 k) ∧ decide (0 ≤ k) = hasBad s ∧ Below w.heap.size w w'

theorem hasBad_at {s : ByteArray} (j : Nat) (h : j < s.size) (hb : badB s[j] = true) : hasBad s = true := by
  show s.data.toList.any badB = true
  exact List.any_eq_true.2 ⟨s[j], List.getElem_mem (l := s.data.toList) (by simpa using h), hb⟩

/-- The state at the head of the loop over s. -/
def II (w : World) (s : ByteArray) (wx : World) : Prop := ∃ i, i ≤ s.size ∧ wx.heap[w.heap.size]? = some (.stringIter s i) ∧ Below w.heap.size w wx ∧ (s.data.toList.take i).any badB = false
theorem below_iterAt {B : Nat} {w wx : World} (h : Below B w wx) (k : Nat) (s : ByteArray) (i : Nat) (hk : B ≤ k) : Below B w (wx.iterAt k s i) :=
  h.trans ⟨rfl, rfl, rfl, by simp [World.iterAt], fun j hj => by simp [World.iterAt, Array.getElem?_setIfInBounds]; intro e; omega⟩
theorem II.at {w wx : World} {s : ByteArray} (i : Nat) (hi : i ≤ s.size) (h : ∃ j, wx.heap[w.heap.size]? = some (.stringIter s j)) (hb : Below w.heap.size w wx) (hn : (s.data.toList.take i).any badB = false) : II w s (wx.iterAt w.heap.size s i) := by
  obtain ⟨j, hj⟩ := h
  exact ⟨i, hi, Lib.iterAt_heap wx _ s j i hj, below_iterAt hb _ _ _ (Nat.le_refl _), hn⟩
theorem II.pos {w wx : World} {s : ByteArray} {i : Nat} (h : wx.heap[w.heap.size]? = some (.stringIter s i)) : wx.iterPos w.heap.size = i := by simp [World.iterPos, h]

set_option maxRecDepth 8000 in
set_option maxHeartbeats 1600000 in
theorem idx_short (s : ByteArray) (w : World) (h8 : s.size ≤ 8) : Calls Try.prog 55 #[.string s, .string bads] w (IdxPost s w) := by
  have h8z : decide ((8 : Int) < (s.size : Int)) = false := decide_eq_false (by omega)
  have H0 : Hid (II w s (w.iter s 0)) := ⟨0, Nat.zero_le _, World.iter_heap w s 0, bl_iter _ _ _, rfl⟩
  go_enter Try.func55, Try.ntmps55
  go_wp2_with (go_at_call 64; refine (Try.strings_shouldUseASCIISet _ _).mono ?_; rintro e w' ⟨rfl, hw⟩; rw [hw, h8z])
  go_loopw [9, 10] (fun _ _ wx => II w s wx) (fun _ _ wx => s.size - wx.iterPos w.heap.size)
  case atStart => exact H0.out
  case round =>
    obtain ⟨i, hi, hk, hbel, hno⟩ := hrel
    have HNO := Lib.hid hno
    have HPOS := Lib.hid (II.pos hk)
    have HBEL := Lib.hid hbel
    clear hno H0
    by_cases hlt : i < s.size
    · obtain ⟨x, hx⟩ : ∃ x : UInt8, s[i]'hlt = x := ⟨_, rfl⟩
      by_cases h128 : x.toNat < 128
      · have hnx := fun ty => Lib.run_next_ascii_at (P := Try.prog) wr w.heap.size s i ty hk hlt (by rw [hx]; exact h128)
        rw [hx] at hnx
        have hcon := indexByte_bads x
        have hback : ((x.toNat : Int)).toNat.toUInt8 = x := by simp
        have h0x : (0 : Int) ≤ (x.toNat : Int) := by omega
        have h1x : (x.toNat : Int) < 128 := by omega
        rcases Bool.eq_false_or_eq_true (badB x) with hbx | hbx
        · rw [hbx] at hcon
          have hge : (0 : Int) ≤ Lib.indexByte bads.data.toList x := of_decide_eq_true hcon
          have HH := Lib.hid (hasBad_at i hlt (by rw [hx]; exact hbx))
          clear hcon hbx hx hbel hk
          go_wp2_with (go_at_call 63; refine (Try.strings_IndexRune_ascii _ _ _ h0x h1x).mono ?_; rintro e w' ⟨rfl, hw⟩; rw [hw, hback])
          go_ret
          exact ⟨_, rfl, by rw [HH.out]; simp, below_iterAt HBEL.out _ _ _ (Nat.le_refl _)⟩
        · rw [hbx] at hcon
          have hge : ¬ (0 : Int) ≤ Lib.indexByte bads.data.toList x := of_decide_eq_false hcon
          have HN : Hid (II w s (wr.iterAt w.heap.size s (i + 1))) := II.at (i + 1) (by omega) ⟨i, hk⟩ hbel (by
            rw [any_take_succ _ _ (by simpa using hlt), HNO.out]
            show (false || badB (s[i]'hlt)) = false
            rw [hx, hbx]; rfl)
          have HPN : Hid ((wr.iterAt w.heap.size s (i + 1)).iterPos w.heap.size = i + 1) := II.pos (Lib.iterAt_heap wr _ s i _ hk)
          clear hcon hbx hx hbel hk
          go_wp2_with (go_at_call 63; refine (Try.strings_IndexRune_ascii _ _ _ h0x h1x).mono ?_; rintro e w' ⟨rfl, hw⟩; rw [hw, hback])
          go_roundw
          case rel => exact HN.out
          case measure => rw [HPN.out, HPOS.out]; omega
      · have hnx := fun ty => Lib.run_next_any_at (P := Try.prog) wr w.heap.size s i ty hk hlt
        have hd := decode_high s i hlt (by rw [hx]; omega)
        have hdb := dec_bytes s i hlt (by rw [hx]; omega)
        have hno2 := any_take_more s i _ HNO.out hdb.1 hdb.2
        have hle := hdb.1
        clear hdb hx
        generalize (Utf8.decode s i).2 = wd at *
        generalize (Utf8.decode s i).1 = rn at *
        have h128' : (128 : Int) ≤ (rn : Int) := by omega
        obtain ⟨hd1, hd2⟩ := hd
        have HN : Hid (II w s (wr.iterAt w.heap.size s (i + wd))) := II.at (i + wd) hle ⟨i, hk⟩ hbel hno2
        clear hno2 hbel hk
        go_wp2_with fail
        refine (rune_any _ _ h128').mono ?_
        rintro e w1 ⟨rfl, hb1⟩
        obtain ⟨j, hj, hjk, hjb, hjn⟩ := HN.out
        have hjk1 : (wr.iterAt w.heap.size s (i + wd)).heap[w.heap.size]? = some (.stringIter s (i + wd)) := by
          have : w.heap.size < wr.heap.size := by
            have h := (Array.getElem?_eq_some_iff.1 hjk).1; simpa [World.iterAt] using h
          simp [World.iterAt, this]
        have HN1 : Hid (II w s w1) := ⟨j, hj, (hb1.block _ (Array.getElem?_eq_some_iff.1 hjk).1).trans hjk, hjb.trans (hb1.mono hjb.size), hjn⟩
        have HP1 : Hid (w1.iterPos w.heap.size = i + wd) := II.pos ((hb1.block _ (Array.getElem?_eq_some_iff.1 hjk).1).trans hjk1)
        clear hj hjk hjb hjn hb1 hjk1 hnx
        go_wp2
        go_roundw
        case rel => exact HN1.out
        case measure => rw [HP1.out, HPOS.out]; omega
    · have hnx := fun ty => Lib.run_next_end_at (P := Try.prog) wr w.heap.size s i ty hk hlt
      have HH : Hid (hasBad s = false) := by
        have := HNO.out
        rwa [List.take_of_length_le (by simp; omega)] at this
      clear hk hbel
      go_wp2
      go_ret
      exact ⟨_, rfl, by rw [HH.out]; rfl, HBEL.out⟩
end Go.Proofs.Ytbigolappdlhcaa
