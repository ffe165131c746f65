/- syntax: the atoms; what Parse answers at a bracket, at one and a star, in a group, and at what a set is written as. -/
import Derived.Test.YtlhppbendpnkeaaGreatDoorMI
import Derived.Test.YtlhppbendpnkeaaGreatDoorZE
namespace Go.Proofs.YtlhppbendpnkeaaGreatDoor
set_option linter.unusedSimpArgs false
set_option linter.unusedVariables false
open Go.RowKit

theorem ndC_congr {f g : Nat → Bool} (h : setC f = setC g) (k : Nat) (mn mx : Int) (gr : Nat) (v : Value) : ndC k f mn mx gr v = ndC k g mn mx gr v := by
  unfold setC at h
  simp only [Array.mk.injEq, List.cons.injEq, Value.int.injEq, true_and, and_true] at h
  obtain ⟨h0, h1, h2, h3⟩ := h
  unfold ndC
  rw [h0, h1, h2, h3]
theorem AtomAt.congr {x : Bool} {f g : Nat → Bool} {s : ByteArray} {i j : Nat} (h : AtomAt x f s i j) (e : setC f = setC g) : AtomAt x g s i j := fun R M g' m o W hp hM =>
  (h R M g' m o W hp hM).mono fun e1 w' ⟨v, h1, h2, h3, h4⟩ => ⟨v, by rw [h1, ndC_congr e], h2, h3, h4⟩
section
variable {x : Bool} {f : Nat → Bool} {s : ByteArray} {i : Nat} {rest : Bs}
theorem at_bracket (hs : s.data.toList.drop i = 91 :: (printS f ++ rest)) (hsz : s.size ≤ 65536) : AtomAt x f s i (i + 1 + (printS f).length) := fun R M g m o W hp hM =>
  atom_bracket R M s i x g m o f rest true W hp hM hsz hs
theorem at_dot (hs : s.data.toList.drop i = 46 :: rest) (hsz : s.size ≤ 65536) : AtomAt x (fun c => !noneF c) s i (i + 1) := fun R M g m o W hp hM =>
  atom_dot R M s i x g m o rest true W hp hM hsz hs
theorem at_plain {c : UInt8} (hs : s.data.toList.drop i = c :: rest) (hsz : s.size ≤ 65536) (hc1 : c ≠ 91) (hc2 : c ≠ 46) (hc3 : c ≠ 92) (hc4 : c ≠ 42) (hcx : x = true → c ≠ 40 ∧ c ≠ 43 ∧ c ≠ 63 ∧ c ≠ 123) : AtomAt x (oneF c.toNat) s i (i + 1) := fun R M g m o W hp hM =>
  atom_plain R M s i x g m o c rest true W hp hM hsz hs hc1 hc2 hc3 hc4 hcx
theorem at_n (hs : s.data.toList.drop i = 92 :: 110 :: rest) (hsz : s.size ≤ 65536) : AtomAt x (oneF 10) s i (i + 2) := fun R M g m o W hp hM =>
  atom_back R M s i (i + 2) x g m o 2 (oneF 10) 0 0 none g o (110 :: rest) true W hp hM hsz hs (by rw [hs]; cases x <;> rfl)
    (fun W' hp' hM' => escape_n R M s i x g m o rest W' hp' hM' hsz hs)
theorem at_spec {c : UInt8} (hs : s.data.toList.drop i = 92 :: c :: rest) (hsz : s.size ≤ 65536) (hc : spcB x c = true) : AtomAt x (oneF c.toNat) s i (i + 2) := fun R M g m o W hp hM =>
  atom_back R M s i (i + 2) x g m o 2 (oneF c.toNat) 0 0 none g o (c :: rest) true W hp hM hsz hs (by
      rw [hs]
      cases x with
      | true => rfl
      | false =>
        show (true && c == 40) = false
        rcases spec_cases hc with rfl | rfl | rfl | rfl | rfl | rfl | ⟨h, _⟩
        all_goals first | rfl | cases h)
    (fun W' hp' hM' => escape_spec R M s i x g m o c rest W' hp' hM' hsz hs hc)
end
theorem parse_bracket (s : ByteArray) (x : Bool) (f : Nat → Bool) (w : World) (hs : s.data.toList = 91 :: printS f) :
    Calls Tryz.prog 6 #[.string s, .bool x] w fun e w' => ParseP 2 f 0 0 none w.heap.size e w' ∧ Below w.heap.size w w' := by
  have hle := printS_le f
  have hl : s.size = (printS f).length + 1 := by
    have := congrArg List.length hs
    have e : s.data.toList.length = s.size := by simp
    rw [List.length_cons] at this; omega
  refine parse_atom s x f (91 :: printS f) w hs ?_ (by simp) (by rw [List.length_cons]; omega) (by cases x with
    | true => rfl
    | false => cases printS f <;> rfl) (fun r => ⟨fun h => by simp at h, fun h => by simp at h⟩)
  have h := at_bracket (x := x) (f := f) (s := s) (i := 0) (rest := []) (by rw [List.drop_zero, hs, List.append_nil]) (by omega)
  rw [List.length_cons]
  rwa [show 0 + 1 + (printS f).length = (printS f).length + 1 by omega] at h
theorem parse_bracket_star (s : ByteArray) (x : Bool) (f : Nat → Bool) (w : World) (hs : s.data.toList = 91 :: printS f ++ [42]) :
    Calls Tryz.prog 6 #[.string s, .bool x] w fun e w' => ParseP 5 noneF (-1) 0 (some f) w.heap.size e w' ∧ Below w.heap.size w w' := by
  have hle := printS_le f
  have hl : s.size = (printS f).length + 2 := by
    have := congrArg List.length hs
    have e : s.data.toList.length = s.size := by simp
    rw [List.length_append, List.length_cons] at this; simp at this; omega
  refine parse_star s x f (91 :: printS f) w hs ?_ (by simp) (by rw [List.length_cons]; omega) (by cases x with
    | true => rfl
    | false => cases h : printS f <;> rfl) (fun r => ⟨fun h => by simp at h, fun h => by simp at h⟩)
  have h := at_bracket (x := x) (f := f) (s := s) (i := 0) (rest := [42]) (by rw [List.drop_zero, hs]; rfl) (by omega)
  rw [List.length_cons]
  rwa [show 0 + 1 + (printS f).length = (printS f).length + 1 by omega] at h
theorem parse_group (s : ByteArray) (x : Bool) (f : Nat → Bool) (w : World) (hs : s.data.toList = (if x then [40] else [92, 40]) ++ (91 :: (printS f ++ (if x then [41] else [92, 41])))) :
    Calls Tryz.prog 6 #[.string s, .bool x] w fun e w' => ParseP 6 noneF 0 1 (some f) w.heap.size e w' ∧ Below w.heap.size w w' := by
  have hle := printS_le f
  have hsg : ∀ c : UInt8, (if x then [c] else [92, c]).length = sgn x := fun c => by cases x <;> rfl
  have hl : s.size = sgn x + 1 + (printS f).length + sgn x := by
    have := congrArg List.length hs
    have e : s.data.toList.length = s.size := by simp
    rw [List.length_append, List.length_cons, List.length_append, hsg, hsg] at this; omega
  have hsx : 1 ≤ sgn x ∧ sgn x ≤ 2 := by cases x <;> decide
  have hd1 : s.data.toList.drop (sgn x) = 91 :: (printS f ++ (if x then [41] else [92, 41])) := by
    rw [hs, ← hsg 40, List.drop_left]
  have hd2 : s.data.toList.drop (sgn x + 1 + (printS f).length) = if x then [41] else [92, 41] := by
    rw [show sgn x + 1 + (printS f).length = sgn x + (1 + (printS f).length) by omega, ← List.drop_drop, hd1, Nat.add_comm 1, List.drop_succ_cons, List.drop_left]
  have hi : 0 < s.size := by omega
  have h0 : ∃ c r, s.data.toList = c :: r ∧ s[0]'hi = c ∧ (c = 40 ∨ c = 92) := by
    have e0 : s.data.toList.drop 0 = s.data.toList := rfl
    cases x with
    | true => exact ⟨40, _, hs, (get_head (e0.trans hs)).2.1, .inl rfl⟩
    | false => exact ⟨92, _, hs, (get_head (e0.trans hs)).2.1, .inr rfl⟩
  obtain ⟨c, r, hcr, hc0, hc⟩ := h0
  have hA := at_bracket (x := x) (f := f) (s := s) (i := sgn x) (rest := if x then [41] else [92, 41]) hd1 (by omega)
  obtain ⟨hi1, ha1, _⟩ := get_head hd1
  have hov1 : overB x (s.data.toList.drop (sgn x)) = false := by
    rw [hd1]
    cases x with
    | true => rfl
    | false => cases printS f <;> rfl
  have hq : Quiet x (s.data.toList.drop (sgn x + 1 + (printS f).length)) := by rw [hd2]; exact quiet_end x
  have hend : signB x (s.data.toList.drop (sgn x + 1 + (printS f).length)) 41 = true := by rw [hd2]; cases x <;> rfl
  have hopen : signB x (s.data.toList.drop 0) 40 = true := by rw [List.drop_zero, hs]; cases x <;> rfl
  have hov0 : overB x (s.data.toList.drop 0) = false := by rw [List.drop_zero, hs]; cases x <;> rfl
  refine Parse_any s x 6 noneF 0 1 (some f) 1 0 w (by omega) fun R M W hp hM => ?_
  have hMl := blk_lt hM
  refine branches_any R M s s.size x 1 _ 0 6 noneF 0 1 (some f) W (blk_lt hp) hMl (Nat.le_refl _) (by omega) (by rw [List.drop_eq_nil_of_le (by simp)]; cases x <;> rfl) fun W1 hb1 => ?_
  have hM1 := blk_below hM hb1 hMl
  have hp1 := hp.to hb1
  have hqn : Quiet x (s.data.toList.drop s.size) := by rw [List.drop_eq_nil_of_le (by simp)]; exact quiet_nil x
  refine branch_any R M s 0 s.size s.size x 0 1 1 _ 0 0 0 6 noneF 0 1 (some f) 6 noneF 0 1 (some f) W1 hp1 (blk_lt hp1) (blk_lt hM1) hi (Nat.le_refl _) (by omega) hov0 hqn.over (by rw [hc0]; rcases hc with rfl | rfl <;> decide) (by rw [hc0]; rcases hc with rfl | rfl <;> decide) (fun W2 hb2 => ?_) (rep_none (Nat.le_refl _) (by omega) hqn R M 1 _ 0 6 noneF 0 1 (some f))
  have hM2 := blk_below hM1 hb2 (blk_lt hM1)
  refine atom_group R M s 0 s.size x 0 _ 0 6 noneF 0 1 (some f) 1 0 true W2 (hp1.to hb2) (blk_lt hM2) (by omega) hi hopen fun W3 hb3 hp3 _ => ?_
  have hM3 := blk_below hM2 hb3 (blk_lt hM2)
  have h := group_any R M s 0 (sgn x + 1 + (printS f).length) x f W3 hp3 hM3 (by omega) hi (by omega) hend (fun W4 hp4 => ?_)
  · rw [← hl] at h; exact h
  · rw [Nat.zero_add] at hp4 
    exact bs_none hA hi1 (by omega) (by omega) hov1 (by rw [ha1]; decide) (by rw [ha1]; decide) hq R R 1 _ 1 W4 hp4 (blk_lt hp4)
end Go.Proofs.YtlhppbendpnkeaaGreatDoor
