/- syntax: what Print writes of a star is read back. -/
import Derived.Test.YtlhppbendpnkeaaGreatDoorPH
namespace Go.Proofs.YtlhppbendpnkeaaGreatDoor
set_option linter.unusedSimpArgs false
set_option linter.unusedVariables false
open Go.RowKit

theorem filter_all {α : Type} (p : α → Bool) : ∀ l : List α, (l.filter p).length = l.length → ∀ x ∈ l, p x = true := by
  intro l
  induction l with
  | nil => intro _ x hx; cases hx
  | cons a l ih =>
    intro h x hx
    rw [List.filter_cons] at h
    by_cases ha : p a = true
    · rw [if_pos ha, List.length_cons, List.length_cons] at h
      rcases List.mem_cons.1 hx with e | e
      · rw [e]; exact ha
      · exact ih (by omega) x e
    · rw [if_neg ha, List.length_cons] at h
      have := List.length_filter_le p l
      omega
theorem full_all {f : Nat → Bool} (h : (natL f 256).length = 256) : ∀ c, c < 256 → f c = true := by
  intro c hc
  exact filter_all f (List.range 256) (by rw [List.length_range]; exact h) c (by simpa using hc)
theorem one_only {f : Nat → Bool} {c : Nat} (h : natL f 256 = [c]) : ∀ d, d < 256 → f d = oneF c d := by
  intro d hd
  have h1 : d ∈ natL f 256 ↔ d < 256 ∧ f d = true := natL_mem
  rw [h] at h1
  simp only [List.mem_singleton] at h1
  unfold oneF
  rw [Bool.eq_iff_iff, beq_iff_eq]
  constructor
  · intro e; exact h1.2 ⟨hd, e⟩
  · intro e; exact (h1.1 e).2
theorem not_spec {x : Bool} {c : UInt8} (h : ¬ spcB x c = true) : (c ≠ 92 ∧ c ≠ 94 ∧ c ≠ 36 ∧ c ≠ 46 ∧ c ≠ 91 ∧ c ≠ 42) ∧ (x = true → c ≠ 40 ∧ c ≠ 41 ∧ c ≠ 43 ∧ c ≠ 63 ∧ c ≠ 123 ∧ c ≠ 124) := by
  refine ⟨⟨?_, ?_, ?_, ?_, ?_, ?_⟩, fun hx => ⟨?_, ?_, ?_, ?_, ?_, ?_⟩⟩
  all_goals
    intro e
    subst e
    first
      | (apply h; cases x <;> decide)
      | (apply h; rw [hx]; decide)
theorem parse_back (s : ByteArray) (x : Bool) (f : Nat → Bool) (w : World) (hs : s.data.toList = setT x f ++ [42]) :
    Calls Tryz.prog 6 #[.string s, .bool x] w fun e w' => ParseP 5 noneF (-1) 0 (some f) w.heap.size e w' ∧ Below w.heap.size w w' := by
  have hle := setT_le x f
  have hl : s.size = (setT x f).length + 1 := by
    have := congrArg List.length hs
    have e : s.data.toList.length = s.size := by simp
    rw [List.length_append] at this
    simp at this; omega
  have hsz : s.size ≤ 65536 := by omega
  have hd : s.data.toList.drop 0 = setT x f ++ [42] := by rw [List.drop_zero]; exact hs
  by_cases h256 : (natL f 256).length = 256
  · have hT : setT x f = [46] := by unfold setT; rw [if_pos h256]
    rw [hT] at hs hd
    refine parse_star s x f [46] w hs ?_ (by simp) (by decide) (by cases x <;> rfl) (fun r => ⟨fun h => by simp at h, fun h => by simp at h⟩)
    exact (at_dot (x := x) (s := s) (i := 0) (rest := [42]) hd hsz).congr (setC_congr (fun c hc => by rw [full_all h256 c hc]; rfl))
  · by_cases h1 : (natL f 256).length = 1
    · obtain ⟨c, hc⟩ := List.length_eq_one_iff.1 h1
      have hc256 : c < 256 := (natL_mem.1 (by rw [hc]; simp : c ∈ natL f 256)).1
      have hT : setT x f = oneT x c := by unfold setT; rw [if_neg h256, if_pos h1, hc]; rfl
      have hcong : setC (oneF c) = setC f := setC_congr (fun d hd => (one_only hc d hd).symm)
      have htn : (UInt8.ofNat c).toNat = c := toNat_byte hc256
      rw [hT] at hs hd
      by_cases h10 : c = 10
      · have hO : oneT x c = [92, 110] := by unfold oneT; rw [if_pos h10]
        rw [hO] at hs hd
        refine parse_star s x f [92, 110] w hs ?_ (by simp) (by decide) (by cases x <;> rfl) (fun r => ⟨fun h => by simp at h, fun h => by simp at h⟩)
        rw [h10] at hcong
        exact (at_n (x := x) (s := s) (i := 0) (rest := [42]) hd hsz).congr hcong
      · by_cases hsp : spcB x (UInt8.ofNat c) = true
        · have hO : oneT x c = [92, UInt8.ofNat c] := by unfold oneT; rw [if_neg h10, if_pos hsp]
          rw [hO] at hs hd
          refine parse_star s x f [92, UInt8.ofNat c] w hs ?_ (by simp) (by simp) ?_ (fun r => ⟨fun h => by simp at h, fun h => by simp at h⟩)
          · have h := at_spec (x := x) (s := s) (i := 0) (c := UInt8.ofNat c) (rest := [42]) hd hsz hsp
            rw [htn] at h
            exact h.congr hcong
          · cases x with
            | true => rfl
            | false =>
              show ((false || (true && UInt8.ofNat c == 124)) || (true && UInt8.ofNat c == 41)) = false
              rcases spec_cases hsp with e | e | e | e | e | e | ⟨e, _⟩
              all_goals first | (rw [e]; rfl) | cases e
        · have hO : oneT x c = [UInt8.ofNat c] := by unfold oneT; rw [if_neg h10, if_neg hsp]
          obtain ⟨⟨n1, n2, n3, n4, n5, n6⟩, nx⟩ := not_spec hsp
          rw [hO] at hs hd
          refine parse_star s x f [UInt8.ofNat c] w hs ?_ (by simp) (by simp) ?_ (fun r => ⟨fun h => n2 (by simpa using (List.cons.inj h).1), fun h => n3 (by simpa using (List.cons.inj h).1)⟩)
          · have h := at_plain (x := x) (s := s) (i := 0) (c := UInt8.ofNat c) (rest := [42]) hd hsz n5 n4 n1 n6 (fun hx => ⟨(nx hx).1, (nx hx).2.2.1, (nx hx).2.2.2.1, (nx hx).2.2.2.2.1⟩)
            rw [htn] at h
            exact h.congr hcong
          · cases x with
            | true =>
              show ((false || UInt8.ofNat c == 124) || UInt8.ofNat c == 41) = false
              have := nx rfl
              simp [this.2.1, this.2.2.2.2.2]
            | false =>
              show ((false || (UInt8.ofNat c == 92 && _)) || (UInt8.ofNat c == 92 && _)) = false
              simp [n1]
    · have hT : setT x f = 91 :: printS f := by unfold setT; rw [if_neg h256, if_neg h1]
      rw [hT] at hs
      exact parse_bracket_star s x f w hs
end Go.Proofs.YtlhppbendpnkeaaGreatDoor
