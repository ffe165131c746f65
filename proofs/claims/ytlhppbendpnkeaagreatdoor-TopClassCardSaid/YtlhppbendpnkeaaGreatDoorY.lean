/- What sets.Print writes, by items: plain laws. No program in sight. -/
import Derived.Test.YtlhppbendpnkeaaGreatDoorF
namespace Go.Proofs.YtlhppbendpnkeaaGreatDoor
set_option linter.unusedSimpArgs false
set_option linter.unusedVariables false

def runP (x k : Nat) : List (Nat × Nat) := if k = 0 then [(x, x)] else if k = 1 then [(x, x), (x + 1, x + 1)] else [(x, x + k)]
def rangesL : Nat → List Nat → List (Nat × Nat)
  | 0, _ => []
  | _ + 1, [] => []
  | n + 1, x :: r => runP x (runE x r) ++ rangesL n (r.drop (runE x r))
def itT (p : Nat × Nat) : Bs := if p.1 = p.2 then elemB p.1 else elemB p.1 ++ 45 :: elemB p.2
theorem part_items (x k : Nat) : partB x k = (runP x k).flatMap itT := by
  unfold partB runP
  by_cases h0 : k = 0
  · rw [if_pos h0, if_pos h0]; simp [itT]
  · rw [if_neg h0, if_neg h0]
    by_cases h1 : k = 1
    · rw [if_pos h1, if_pos h1]; simp [itT]
    · rw [if_neg h1, if_neg h1]; simp [itT, h0]
theorem print_items : ∀ (n : Nat) (l : List Nat), printL n l = (rangesL n l).flatMap itT := by
  intro n
  induction n with
  | zero => intro l; rfl
  | succ n ih =>
    intro l
    cases l with
    | nil => rfl
    | cons x r => rw [printL, rangesL, List.flatMap_append, ih, part_items]
def itemsOf (l : List Nat) : List (Nat × Nat) := rangesL l.length l
theorem parts_items (l : List Nat) : partsL l = (itemsOf l).flatMap itT := print_items _ _
def inP (p : Nat × Nat) (c : Nat) : Bool := decide (p.1 ≤ c ∧ c ≤ p.2)
def inR (ps : List (Nat × Nat)) (c : Nat) : Bool := ps.any (fun p => inP p c)
theorem run_take (c : Nat) : ∀ (r : List Nat) (x : Nat), c ∈ r.take (runE x r) ↔ x + 1 ≤ c ∧ c ≤ x + runE x r := by
  intro r
  induction r with
  | nil => intro x; simp [runE]; omega
  | cons y r ih =>
    intro x
    rw [runE]
    by_cases h : y = x + 1
    · rw [if_pos h, List.take_succ_cons, List.mem_cons, ih]
      omega
    · rw [if_neg h]; simp; omega
theorem inR_append (a b : List (Nat × Nat)) (c : Nat) : inR (a ++ b) c = (inR a c || inR b c) := List.any_append
theorem inR_run (x k c : Nat) : inR (runP x k) c = decide (x ≤ c ∧ c ≤ x + k) := by
  unfold runP
  by_cases h0 : k = 0
  · rw [if_pos h0]
    simp only [inR, inP, List.any_cons, List.any_nil, Bool.or_false]
    congr 1; apply propext; omega
  · rw [if_neg h0]
    by_cases h1 : k = 1
    · rw [if_pos h1]
      simp only [inR, inP, List.any_cons, List.any_nil, Bool.or_false, ← Bool.decide_or]
      congr 1; apply propext; omega
    · rw [if_neg h1]
      simp only [inR, inP, List.any_cons, List.any_nil, Bool.or_false]
theorem ranges_mem (c : Nat) : ∀ (n : Nat) (l : List Nat), l.length ≤ n → (inR (rangesL n l) c = true ↔ c ∈ l) := by
  intro n
  induction n with
  | zero =>
    intro l h
    have : l = [] := List.length_eq_zero_iff.1 (by omega)
    subst this
    simp [rangesL, inR]
  | succ n ih =>
    intro l h
    cases l with
    | nil => simp [rangesL, inR]
    | cons x r =>
      rw [rangesL, inR_append, inR_run, Bool.or_eq_true, decide_eq_true_eq, ih _ (by rw [List.length_drop]; simp at h; omega), List.mem_cons]
      have h1 := run_take c r x
      have h2 : c ∈ r ↔ c ∈ r.take (runE x r) ∨ c ∈ r.drop (runE x r) := by
        rw [← List.mem_append, List.take_append_drop]
      rw [h2, h1]
      constructor
      · rintro (h | h)
        · by_cases e : c = x
          · exact .inl e
          · exact .inr (.inl ⟨by omega, h.2⟩)
        · exact .inr (.inr h)
      · rintro (h | h | h)
        · exact .inl ⟨by omega, by omega⟩
        · exact .inl ⟨by omega, h.2⟩
        · exact .inr h
theorem ranges_le : ∀ (n : Nat) (l : List Nat), ∀ p ∈ rangesL n l, p.1 ≤ p.2 := by
  intro n
  induction n with
  | zero => intro l p h; simp [rangesL] at h
  | succ n ih =>
    intro l p h
    cases l with
    | nil => simp [rangesL] at h
    | cons x r =>
      rw [rangesL, List.mem_append] at h
      rcases h with h | h
      · unfold runP at h
        split at h
        · simp at h; subst h; simp
        · split at h
          · simp at h; rcases h with rfl | rfl <;> simp
          · simp at h; subst h; simp
      · exact ih _ p h
theorem items_mem (l : List Nat) (c : Nat) : inR (itemsOf l) c = true ↔ c ∈ l := ranges_mem c _ l (Nat.le_refl _)
theorem items_ok {l : List Nat} (h : ∀ c ∈ l, c < 256) : ∀ p ∈ itemsOf l, p.1 ≤ p.2 ∧ p.2 < 256 := by
  intro p hp
  have h1 := ranges_le _ _ p hp
  refine ⟨h1, h _ ((items_mem l p.2).1 ?_)⟩
  exact List.any_eq_true.2 ⟨p, hp, by simp [inP, h1]⟩
theorem items_ne {l : List Nat} (h : l ≠ []) : itemsOf l ≠ [] := by
  cases l with
  | nil => exact absurd rfl h
  | cons x r =>
    intro e
    have := (items_mem (x :: r) x).2 (List.mem_cons_self ..)
    rw [e] at this
    simp [inR] at this
/-- The items of a set give the set back. -/
theorem items_set (g : Nat → Bool) : setV (inR (itemsOf (natL g 256))) = setV g := setV_congr (fun c hc => by
  rw [Bool.eq_iff_iff, items_mem, natL_mem]
  simp [hc])
theorem cnt_len (f : Nat → Bool) : ∀ n, cntN f n = (natL f n).length := by
  intro n
  induction n with
  | zero => rfl
  | succ n ih =>
    have e : cntN f (n + 1) = cntN f n + (if f n then 1 else 0) := rfl
    rw [e, ih, natL_succ, List.length_append]
    cases f n <;> simp
theorem cnt_not (f : Nat → Bool) : ∀ n, cntN f n + cntN (fun c => !f c) n = n := by
  intro n
  induction n with
  | zero => rfl
  | succ n ih =>
    have e1 : cntN f (n + 1) = cntN f n + (if f n then 1 else 0) := rfl
    have e2 : cntN (fun c => !f c) (n + 1) = cntN (fun c => !f c) n + (if (!f n) then 1 else 0) := rfl
    rw [e1, e2]
    cases f n <;> simp <;> omega
/-- What sets.Print writes: a sign or none, the items, the end. -/
theorem print_shape (f : Nat → Bool) : ∃ (b : Bool) (g : Nat → Bool) (ps : List (Nat × Nat)), printS f = (if b then [94] else []) ++ ps.flatMap itT ++ [93] ∧ ps ≠ [] ∧ (∀ p ∈ ps, p.1 ≤ p.2 ∧ p.2 < 256) ∧ setV (inR ps) = setV g ∧ g = (if b then fun c => !f c else f) := by
  by_cases h : flipF f
  · refine ⟨true, fun c => !f c, itemsOf (natL (fun c => !f c) 256), ?_, items_ne ?_, items_ok (fun c hc => (natL_mem.1 hc).1), items_set _, rfl⟩
    · unfold printS; rw [if_pos h, parts_items]; rfl
    · intro e
      have h1 := cnt_len (fun c => !f c) 256
      have h2 := cnt_not f 256
      rw [e] at h1
      unfold flipF at h
      simp at h1
      omega
  · refine ⟨false, f, itemsOf (natL f 256), ?_, items_ne ?_, items_ok (fun c hc => (natL_mem.1 hc).1), items_set _, rfl⟩
    · unfold printS; rw [if_neg h, parts_items]; rfl
    · intro e
      have h1 := cnt_len f 256
      rw [e] at h1
      unfold flipF at h
      simp at h1
      omega
end Go.Proofs.YtlhppbendpnkeaaGreatDoor
