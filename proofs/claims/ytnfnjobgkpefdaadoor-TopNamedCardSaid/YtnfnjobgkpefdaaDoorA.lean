/- Plain laws of TopNamed: paths as texts; a text in quotes. No program in sight. -/
namespace Go.Proofs.YtnfnjobgkpefdaaDoor
set_option linter.unusedSimpArgs false
set_option linter.unusedVariables false

abbrev Bs := List UInt8

/-- Each name with a slash behind it. -/
def jn (p : List Bs) : Bs := p.flatMap (fun n => n ++ [47])
theorem jn_cons (a : Bs) (p : List Bs) : jn (a :: p) = a ++ 47 :: jn p := by
  unfold jn; rw [List.flatMap_cons, List.append_assoc]; rfl

theorem sep_eq : ∀ (a b X Z : Bs), 47 ∉ a → 47 ∉ b → (a ++ 47 :: X = b ++ 47 :: Z ↔ a = b ∧ X = Z) := by
  intro a
  induction a with
  | nil =>
    intro b X Z ha hb
    cases b with
    | nil => simp
    | cons c b =>
      simp only [List.nil_append, List.cons_append, List.cons.injEq]
      constructor
      · rintro ⟨rfl, _⟩; simp at hb
      · rintro ⟨h, _⟩; cases h
  | cons d a ih =>
    intro b X Z ha hb
    cases b with
    | nil =>
      simp only [List.nil_append, List.cons_append, List.cons.injEq]
      constructor
      · rintro ⟨rfl, _⟩; simp at ha
      · rintro ⟨h, _⟩; cases h
    | cons c b =>
      simp only [List.mem_cons, not_or] at ha hb
      simp only [List.cons_append, List.cons.injEq, ih b X Z ha.2 hb.2]
      constructor
      · rintro ⟨rfl, rfl, rfl⟩; exact ⟨⟨rfl, rfl⟩, rfl⟩
      · rintro ⟨⟨rfl, rfl⟩, rfl⟩; exact ⟨rfl, rfl, rfl⟩

/-- One path's text, closed by a slash, begins another one's just if its names do. -/
theorem jn_prefix : ∀ (q p : List Bs), (∀ n ∈ q, 47 ∉ n) → (∀ n ∈ p, 47 ∉ n) → (jn q <+: jn p ↔ q <+: p) := by
  intro q
  induction q with
  | nil => intro p _ _; exact ⟨fun _ => List.nil_prefix, fun _ => List.nil_prefix⟩
  | cons a q ih =>
    intro p hq hp
    cases p with
    | nil =>
      rw [jn_cons]
      constructor
      · rintro ⟨t, ht⟩
        have := congrArg List.length ht
        simp [jn] at this
      · rintro ⟨t, ht⟩; cases ht
    | cons b p =>
      rw [jn_cons, jn_cons]
      have h1 := ih p (fun n hn => hq n (List.mem_cons_of_mem _ hn)) (fun n hn => hp n (List.mem_cons_of_mem _ hn))
      have ha := hq a (List.mem_cons_self ..)
      have hb := hp b (List.mem_cons_self ..)
      constructor
      · rintro ⟨t, ht⟩
        rw [List.append_assoc, List.cons_append] at ht
        obtain ⟨rfl, h2⟩ := (sep_eq a b _ _ ha hb).1 ht
        obtain ⟨u, hu⟩ := h1.1 ⟨t, h2⟩
        exact ⟨u, by rw [List.cons_append, hu]⟩
      · rintro ⟨t, ht⟩
        rw [List.cons_append, List.cons.injEq] at ht
        obtain ⟨rfl, h2⟩ := ht
        obtain ⟨u, hu⟩ := h1.2 ⟨t, h2⟩
        exact ⟨u, by rw [List.append_assoc, List.cons_append, hu]⟩

/-- How many first names are alike. -/
def alikeL : List Bs → List Bs → Nat
  | a :: p, b :: q => if a = b then alikeL p q + 1 else 0
  | _, _ => 0
theorem alike_all : ∀ (q p : List Bs), alikeL p q = q.length ↔ q <+: p := by
  intro q
  induction q with
  | nil => intro p; cases p <;> simp [alikeL]
  | cons b q ih =>
    intro p
    cases p with
    | nil => simp [alikeL]
    | cons a p =>
      rw [alikeL]
      by_cases h : a = b
      · subst h
        rw [if_pos rfl, List.length_cons]
        constructor
        · intro e
          obtain ⟨u, hu⟩ := (ih p).1 (by omega)
          exact ⟨u, by rw [List.cons_append, hu]⟩
        · rintro ⟨t, ht⟩
          rw [List.cons_append, List.cons.injEq] at ht
          have := (ih p).2 ⟨t, ht.2⟩
          omega
      · rw [if_neg h, List.length_cons]
        constructor
        · intro e; omega
        · rintro ⟨t, ht⟩
          rw [List.cons_append, List.cons.injEq] at ht
          exact absurd ht.1.symm h

/-- The letter of a byte that has one; 0: none. -/
def shortB : Nat → UInt8
  | 7 => 97 | 8 => 98 | 9 => 116 | 10 => 110 | 11 => 118 | 12 => 102 | 13 => 114 | _ => 0
/-- How a byte is told. -/
def toldB (c : UInt8) : Bs :=
  if c = 92 then [92, 92]
  else if shortB c.toNat ≠ 0 then [92, shortB c.toNat]
  else if c < 32 ∨ 127 ≤ c then [92, (48 : UInt8) + (c >>> 6), (48 : UInt8) + ((c >>> 3) &&& 7), (48 : UInt8) + (c &&& 7)]
  else [c]
/-- The same between quotes. -/
def quoB (c : UInt8) : Bs := if c = 34 then [92, 34] else toldB c
/-- A text in quotes. -/
def quote (s : Bs) : Bs := 34 :: (s.flatMap quoB ++ [34])
theorem quoB_pos (c : UInt8) : 0 < (quoB c).length := by
  unfold quoB toldB
  repeat' split
  all_goals simp
theorem quoB_le (c : UInt8) : (quoB c).length ≤ 4 := by
  unfold quoB toldB
  repeat' split
  all_goals simp

/-- A path's own text. -/
def textL : List Bs → Bs
  | [] => [47]
  | [a] => 47 :: a
  | a :: b :: p => 47 :: (a ++ textL (b :: p))
theorem textL_jn : ∀ p : List Bs, p ≠ [] → textL p ++ [47] = 47 :: jn p := by
  intro p
  induction p with
  | nil => intro h; exact absurd rfl h
  | cons a p ih =>
    intro _
    cases p with
    | nil => simp [textL, jn]
    | cons b p =>
      rw [textL, jn_cons, List.cons_append, List.append_assoc, ih (by simp)]
/-- The text with a slash behind it, but for the root's. -/
theorem textL_slash (p : List Bs) : (if textL p = [47] then textL p else textL p ++ [47]) = if p = [[]] then [47] else 47 :: jn p := by
  match p with
  | [] => simp [textL, jn]
  | [a] =>
    by_cases h : a = []
    · subst h; simp [textL]
    · rw [if_neg (by simpa [textL] using h), if_neg (by simpa using h), textL_jn _ (by simp)]
  | a :: b :: p =>
    have h : textL (a :: b :: p) ≠ [47] := by
      intro e
      rw [textL, List.cons.injEq] at e
      have h2 := congrArg List.length e.2
      have h3 : 0 < (textL (b :: p)).length := by cases p <;> simp [textL]
      rw [List.length_append, List.length_nil] at h2
      omega
    rw [if_neg h, if_neg (by simp), textL_jn _ (by simp)]
/-- A path's text begins another one's, up to a whole name, just if its names do. -/
theorem within_law (p q : List Bs) (hp : ∀ n ∈ p, 47 ∉ n ∧ n ≠ []) (hq : ∀ n ∈ q, 47 ∉ n ∧ n ≠ []) :
    alikeL p q = q.length ↔ (if textL q = [47] then textL q else textL q ++ [47]) <+: (if textL p = [47] then textL p else textL p ++ [47]) := by
  have ne : ∀ l : List Bs, (∀ n ∈ l, 47 ∉ n ∧ n ≠ []) → l ≠ [[]] := by
    intro l h e; subst e; exact (h [] (by simp)).2 rfl
  rw [textL_slash, textL_slash, if_neg (ne p hp), if_neg (ne q hq), alike_all, ← jn_prefix q p (fun n h => (hq n h).1) (fun n h => (hp n h).1)]
  constructor
  · rintro ⟨t, ht⟩; exact ⟨t, by rw [List.cons_append, ht]⟩
  · rintro ⟨t, ht⟩; rw [List.cons_append, List.cons.injEq] at ht; exact ⟨t, ht.2⟩

/-- A text taken apart at its slashes. -/
def splitB : Bs → List Bs
  | [] => [[]]
  | c :: s => if c = 47 then [] :: splitB s else match splitB s with
    | [] => [[c]]
    | a :: r => (c :: a) :: r
theorem splitB_ne : ∀ s, splitB s ≠ [] := by
  intro s
  cases s with
  | nil => simp [splitB]
  | cons c s => rw [splitB]; split; · simp
                · split <;> simp
theorem splitB_name : ∀ (a : Bs), 47 ∉ a → splitB a = [a] := by
  intro a
  induction a with
  | nil => intro _; rfl
  | cons c a ih =>
    intro h
    simp only [List.mem_cons, not_or] at h
    rw [splitB, if_neg (fun e => h.1 e.symm), ih h.2]
theorem splitB_app : ∀ (a s : Bs), 47 ∉ a → splitB (a ++ 47 :: s) = a :: splitB s := by
  intro a
  induction a with
  | nil => intro s _; rw [List.nil_append, splitB, if_pos rfl]
  | cons c a ih =>
    intro s h
    simp only [List.mem_cons, not_or] at h
    rw [List.cons_append, splitB, if_neg (fun e => h.1 e.symm), ih s h.2]
theorem textL_head (p : List Bs) : ∃ r, textL p = 47 :: r := by
  match p with
  | [] => exact ⟨[], rfl⟩
  | [a] => exact ⟨a, rfl⟩
  | a :: b :: p => exact ⟨_, rfl⟩
theorem splitB_text : ∀ p : List Bs, p ≠ [] → (∀ n ∈ p, 47 ∉ n) → splitB (textL p) = [] :: p := by
  intro p
  induction p with
  | nil => intro h; exact absurd rfl h
  | cons a p ih =>
    intro _ hp
    cases p with
    | nil => rw [textL, splitB, if_pos rfl, splitB_name a (hp a (by simp))]
    | cons b p =>
      have h := ih (by simp) (fun n hn => hp n (List.mem_cons_of_mem _ hn))
      obtain ⟨r, hr⟩ := textL_head (b :: p)
      rw [hr, splitB, if_pos rfl] at h
      simp only [List.cons.injEq, true_and] at h
      rw [textL, splitB, if_pos rfl, hr, splitB_app a r (hp a (by simp)), h]
end Go.Proofs.YtnfnjobgkpefdaaDoor
