/- The plain law of InputAll: the lines that come, and what the state tells of them. -/
import Derived.Test.YtlckloeeimilhaaG
namespace Go.Proofs.Ytlckloeeimilhaa
set_option linter.unusedSimpArgs false
set_option linter.unusedVariables false
open Go.RowKit

/-- A line that comes: its input, its number there. -/
abbrev Item := Ln × Nat × Nat
def itemsOf (k : Nat) : Nat → List Ln → List Item
  | _, [] => []
  | m, l :: r => (l, k, m + 1) :: itemsOf k (m + 1) r
def items : Nat → List ByteArray → List Item
  | _, [] => []
  | k, t :: ts => itemsOf k 0 (splitL t) ++ items (k + 1) ts

theorem itemsOf_fst (k : Nat) : ∀ (ls : List Ln) (m : Nat), (itemsOf k m ls).map (·.1) = ls := by
  intro ls
  induction ls with
  | nil => intro m; rfl
  | cons l r ih => intro m; simp [itemsOf, ih]
theorem items_fst : ∀ (ts : List ByteArray) (k : Nat), (items k ts).map (·.1) = ts.flatMap splitL := by
  intro ts
  induction ts with
  | nil => intro k; rfl
  | cons t r ih => intro k; simp [items, ih, itemsOf_fst]

/-- Line by line: the number goes on in an input, and begins anew in a later one. -/
def Ch : Option (Nat × Nat) → List Item → Prop
  | _, [] => True
  | none, (_, k, m) :: r => m = 1 ∧ Ch (some (k, m)) r
  | some (k0, m0), (_, k, m) :: r => ((k = k0 ∧ m = m0 + 1) ∨ (k0 < k ∧ m = 1)) ∧ Ch (some (k, m)) r

theorem ch_items : ∀ (ts : List ByteArray) (k : Nat), Ch none (items k ts) ∧ ∀ k0 m0, k0 < k → Ch (some (k0, m0)) (items k ts) := by
  intro ts
  induction ts with
  | nil => intro k; exact ⟨trivial, fun _ _ _ => trivial⟩
  | cons t r ih =>
    intro k
    have key : ∀ (ls : List Ln) (m : Nat), Ch (some (k, m)) (itemsOf k m ls ++ items (k + 1) r) := by
      intro ls
      induction ls with
      | nil => intro m; exact (ih (k + 1)).2 k m (by omega)
      | cons l ls ihl => intro m; exact ⟨.inl ⟨rfl, rfl⟩, ihl (m + 1)⟩
    show Ch none (itemsOf k 0 (splitL t) ++ items (k + 1) r) ∧ ∀ k0 m0, k0 < k → Ch (some (k0, m0)) (itemsOf k 0 (splitL t) ++ items (k + 1) r)
    cases splitL t with
    | nil => exact ⟨(ih (k + 1)).1, fun k0 m0 h => (ih (k + 1)).2 k0 m0 (by omega)⟩
    | cons l ls => exact ⟨⟨rfl, key ls 1⟩, fun k0 m0 h => ⟨.inr ⟨h, rfl⟩, key ls 1⟩⟩

/-- The lines that are ahead (behind the next one). -/
def ahead (ts : List ByteArray) (x : IS) : List Item := itemsOf (x.asked - 1) x.counted x.left ++ items x.asked (ts.drop x.asked)

structure Good (C : Nat) (ts : List ByteArray) (x : IS) : Prop where
  n : x.n = ts.length
  ask : x.asked ≤ ts.length
  err : x.err = 0
  pas : x.passed = false
  left : x.left ≠ [] → ∃ k, x.asked = k + 1 ∧ ts[k]? = some x.data
  cnt : x.counted + x.left.length ≤ C

abbrev told (ts : List ByteArray) : List Tl := ts.map fun t => (t, (0 : Int))

/-- What a look finds. -/
theorem look_law (C : Nat) (ts : List ByteArray) (hC : ∀ t ∈ ts, t.size ≤ C) : ∀ (n : Nat) (x : IS), n = ts.length - x.asked → Good C ts x → x.has = false →
    let y := lookL ((told ts).drop x.asked) x
    Good C ts y ∧ ((ahead ts x = [] → y.has = false ∧ y.asked = ts.length ∧ ahead ts y = []) ∧
      (∀ l k m R, ahead ts x = (l, k, m) :: R → y.has = true ∧ y.nt = l.1 ∧ y.nwh = l.2 ∧ y.ni = (k : Int) ∧ y.nn = (m : Int) ∧ y.asked = k + 1 ∧ ts[k]? = some y.data ∧ ahead ts y = R ∧ y.counted = m)) := by
  intro n
  induction n with
  | zero =>
    intro x hn hg hh
    have ha : x.asked = ts.length := by have := hg.ask; omega
    have hd : (told ts).drop x.asked = [] := List.drop_of_length_le (by simp; omega)
    have hd2 : ts.drop x.asked = [] := List.drop_of_length_le (by omega)
    rcases hl : x.left with _ | ⟨⟨t, b⟩, r⟩
    · rw [hd, lookL_end hl]
      have he : ahead ts x = [] := by unfold ahead; rw [hl, hd2]; rfl
      exact ⟨hg, fun _ => ⟨hh, ha, he⟩, fun l k m R h => by rw [he] at h; cases h⟩
    · intro y
      obtain ⟨k, hk, hdt⟩ := hg.left (by rw [hl]; simp)
      have hy : y = { x with counted := x.counted + 1, nt := t, nwh := b, ni := (x.asked : Int) - 1, nn := x.counted + 1, left := r, has := true } := lookL_fin hl
      have hc := hg.cnt
      rw [hl] at hc
      simp at hc
      rw [hy]
      refine ⟨⟨hg.n, hg.ask, hg.err, hg.pas, fun _ => ⟨k, hk, hdt⟩, by show x.counted + 1 + r.length ≤ C; omega⟩, fun he => ?_, fun l k' m R he => ?_⟩
      · unfold ahead at he; rw [hl] at he; simp [itemsOf] at he
      · unfold ahead at he
        rw [hl] at he
        simp only [itemsOf, List.cons_append, List.cons.injEq, Prod.mk.injEq] at he
        obtain ⟨⟨rfl, rfl, rfl⟩, rfl⟩ := he
        refine ⟨rfl, rfl, rfl, by show (x.asked : Int) - 1 = _; omega, by show ((x.counted : Int) + 1) = _; omega, by show x.asked = _; omega, ?_, rfl, rfl⟩
        show ts[x.asked - 1]? = some x.data
        rw [show x.asked - 1 = k by omega]; exact hdt
  | succ n ih =>
    intro x hn hg hh
    rcases hl : x.left with _ | ⟨⟨t, b⟩, r⟩
    · have hlt : x.asked < ts.length := by omega
      have hd : (told ts).drop x.asked = (ts[x.asked], 0) :: (told ts).drop (x.asked + 1) := by
        rw [List.drop_eq_getElem_cons (by simp; exact hlt)]; simp
      rw [hd, lookL_ok hl]
      have hsz := splitL_length ts[x.asked]
      have hCt := hC _ (List.getElem_mem hlt)
      have hg' : Good C ts { x with asked := x.asked + 1, data := ts[x.asked], left := splitL ts[x.asked], counted := 0 } :=
        ⟨hg.n, hlt, hg.err, hg.pas, fun _ => ⟨x.asked, rfl, by simp [hlt]⟩, by show 0 + (splitL ts[x.asked]).length ≤ C; omega⟩
      have h := ih { x with asked := x.asked + 1, data := ts[x.asked], left := splitL ts[x.asked], counted := 0 } (by show n = ts.length - (x.asked + 1); omega) hg' hh
      have he : ahead ts x = ahead ts { x with asked := x.asked + 1, data := ts[x.asked], left := splitL ts[x.asked], counted := 0 } := by
        unfold ahead
        rw [hl]
        show [] ++ items x.asked (ts.drop x.asked) = itemsOf (x.asked + 1 - 1) 0 (splitL ts[x.asked]) ++ items (x.asked + 1) (ts.drop (x.asked + 1))
        rw [List.drop_eq_getElem_cons hlt]
        rfl
      rw [he]
      exact h
    · intro y
      obtain ⟨k, hk, hdt⟩ := hg.left (by rw [hl]; simp)
      have hy : y = { x with counted := x.counted + 1, nt := t, nwh := b, ni := (x.asked : Int) - 1, nn := x.counted + 1, left := r, has := true } := lookL_fin hl
      have hc := hg.cnt
      rw [hl] at hc
      simp at hc
      rw [hy]
      refine ⟨⟨hg.n, hg.ask, hg.err, hg.pas, fun _ => ⟨k, hk, hdt⟩, by show x.counted + 1 + r.length ≤ C; omega⟩, fun he => ?_, fun l k' m R he => ?_⟩
      · unfold ahead at he; rw [hl] at he; simp [itemsOf] at he
      · unfold ahead at he
        rw [hl] at he
        simp only [itemsOf, List.cons_append, List.cons.injEq, Prod.mk.injEq] at he
        obtain ⟨⟨rfl, rfl, rfl⟩, rfl⟩ := he
        refine ⟨rfl, rfl, rfl, by show (x.asked : Int) - 1 = _; omega, by show ((x.counted : Int) + 1) = _; omega, by show x.asked = _; omega, ?_, rfl, rfl⟩
        show ts[x.asked - 1]? = some x.data
        rw [show x.asked - 1 = k by omega]; exact hdt
end Go.Proofs.Ytlckloeeimilhaa
