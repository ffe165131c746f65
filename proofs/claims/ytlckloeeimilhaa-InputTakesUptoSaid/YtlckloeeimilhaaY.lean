/- The plain law of Take with errors. -/
import Derived.Test.YtlckloeeimilhaaX
namespace Go.Proofs.Ytlckloeeimilhaa
set_option linter.unusedSimpArgs false
set_option linter.unusedVariables false
open Go.RowKit

/-- The items that are ahead. -/
def aheadE (tl : List Tl) (x : IS) : List Item := itemsOf (x.asked - 1) x.counted x.left ++ itemsE x.asked (tl.drop x.asked)
structure GoodE (C : Nat) (tl : List Tl) (x : IS) : Prop where
  n : x.n = tl.length
  ask : x.asked ≤ tl.length
  err : x.err = 0
  pas : x.passed = passe tl x.asked
  left : x.left ≠ [] → ∃ k, x.asked = k + 1 ∧ tl[k]? = some (x.data, 0)
  cnt : x.counted + x.left.length ≤ C
  fin : endE x.asked (tl.drop x.asked) = endE 0 tl

/-- There is nothing ahead. -/
def EndE (tl : List Tl) (y : IS) : Prop :=
  y.has = false ∧ y.passed = passe tl y.asked ∧ ((endE 0 tl < tl.length ∧ (∃ d, tl[endE 0 tl]? = some (d, y.err)) ∧ y.err ≠ 0 ∧ y.asked = endE 0 tl + 1) ∨ (endE 0 tl = tl.length ∧ y.err = 0 ∧ y.asked = tl.length))
/-- An item is ahead. -/
def NextE (C : Nat) (tl : List Tl) (l : Ln) (k m : Nat) (R : List Item) (y : IS) : Prop :=
  GoodE C tl y ∧ y.has = true ∧ y.nt = l.1 ∧ y.nwh = l.2 ∧ y.ni = (k : Int) ∧ y.nn = (m : Int) ∧ y.asked = k + 1 ∧ tl[k]? = some (y.data, 0) ∧ aheadE tl y = R

theorem look_lawE (C : Nat) (tl : List Tl) (hC : ∀ d ∈ tl, d.1.size ≤ C) : ∀ (n : Nat) (x : IS), n = tl.length - x.asked → GoodE C tl x → x.has = false →
    (aheadE tl x = [] → EndE tl (lookL (tl.drop x.asked) x)) ∧ (∀ l k m R, aheadE tl x = (l, k, m) :: R → NextE C tl l k m R (lookL (tl.drop x.asked) x)) := by
  intro n
  induction n with
  | zero =>
    intro x hn hg hh
    have ha : x.asked = tl.length := by have := hg.ask; omega
    have hd : tl.drop x.asked = [] := List.drop_of_length_le (by omega)
    have hf := hg.fin
    rw [hd] at hf
    have hf' : x.asked = endE 0 tl := hf
    rcases hl : x.left with _ | ⟨⟨t, b⟩, r⟩
    · rw [hd, lookL_end hl]
      have he : aheadE tl x = [] := by unfold aheadE; rw [hl, hd]; rfl
      exact ⟨fun _ => ⟨hh, hg.pas, .inr ⟨by omega, hg.err, ha⟩⟩, fun l k m R h => by rw [he] at h; cases h⟩
    · obtain ⟨k, hk, hdt⟩ := hg.left (by rw [hl]; simp)
      rw [lookL_fin hl]
      have hc := hg.cnt
      rw [hl] at hc
      simp at hc
      refine ⟨fun he => ?_, fun l k' m R he => ?_⟩
      · unfold aheadE at he; rw [hl] at he; simp [itemsOf] at he
      · unfold aheadE at he
        rw [hl] at he
        simp only [itemsOf, List.cons_append, List.cons.injEq, Prod.mk.injEq] at he
        obtain ⟨⟨rfl, rfl, rfl⟩, rfl⟩ := he
        refine ⟨⟨hg.n, hg.ask, hg.err, hg.pas, fun _ => ⟨k, hk, hdt⟩, by show x.counted + 1 + r.length ≤ C; omega, hg.fin⟩, rfl, rfl, rfl, by show (x.asked : Int) - 1 = _; omega, by show ((x.counted : Int) + 1) = _; omega, by show x.asked = _; omega, ?_, rfl⟩
        show tl[x.asked - 1]? = some (x.data, 0)
        rw [show x.asked - 1 = k by omega]; exact hdt
  | succ n ih =>
    intro x hn hg hh
    rcases hl : x.left with _ | ⟨⟨t, b⟩, r⟩
    · have hlt : x.asked < tl.length := by omega
      have hd : tl.drop x.asked = tl[x.asked] :: tl.drop (x.asked + 1) := List.drop_eq_getElem_cons hlt
      have hgt : tl[x.asked]? = some tl[x.asked] := List.getElem?_eq_getElem hlt
      have hCt := hC _ (List.getElem_mem hlt)
      have hps := passe_succ tl x.asked hlt
      have hf := hg.fin
      have hah : aheadE tl x = itemsE x.asked (tl.drop x.asked) := by unfold aheadE; rw [hl]; rfl
      rw [hah]
      rw [hd] at hf ⊢
      obtain ⟨z, hz⟩ : ∃ z, tl[x.asked] = z := ⟨_, rfl⟩
      rw [hz] at hf hgt hCt hps ⊢
      obtain ⟨d, e⟩ := z
      by_cases h31 : e = 31
      · subst h31
        rw [lookL_no hl]
        have hg' : GoodE C tl { x with asked := x.asked + 1, passed := true } :=
          ⟨hg.n, hlt, hg.err, by show true = _; rw [hps]; simp, fun h => absurd hl h, by show x.counted + x.left.length ≤ C; exact hg.cnt, by simpa [endE] using hf⟩
        have h := ih { x with asked := x.asked + 1, passed := true } (by show n = tl.length - (x.asked + 1); omega) hg' hh
        have he : itemsE x.asked ((d, 31) :: tl.drop (x.asked + 1)) = aheadE tl { x with asked := x.asked + 1, passed := true } := by
          unfold aheadE
          show _ = itemsOf _ x.counted x.left ++ _
          rw [hl]
          simp [itemsE, itemsOf]
        rw [he]
        exact h
      · by_cases h0 : e = 0
        · subst h0
          rw [lookL_ok hl]
          have hsz := splitL_length d
          have hg' : GoodE C tl { x with asked := x.asked + 1, data := d, left := splitL d, counted := 0 } :=
            ⟨hg.n, hlt, hg.err, by show x.passed = _; rw [hps, hg.pas]; simp, fun _ => ⟨x.asked, rfl, hgt⟩, by show 0 + (splitL d).length ≤ C; simp at hCt; omega, by simpa [endE] using hf⟩
          have h := ih { x with asked := x.asked + 1, data := d, left := splitL d, counted := 0 } (by show n = tl.length - (x.asked + 1); omega) hg' hh
          have he : itemsE x.asked ((d, 0) :: tl.drop (x.asked + 1)) = aheadE tl { x with asked := x.asked + 1, data := d, left := splitL d, counted := 0 } := by
            unfold aheadE
            show _ = itemsOf (x.asked + 1 - 1) 0 (splitL d) ++ itemsE (x.asked + 1) (tl.drop (x.asked + 1))
            simp [itemsE]
          rw [he]
          exact h
        · rw [lookL_err hl h0 h31]
          have he : itemsE x.asked ((d, e) :: tl.drop (x.asked + 1)) = [] := by simp [itemsE, h31, h0]
          have hf' : x.asked = endE 0 tl := by simpa [endE, h31, h0] using hf
          rw [he]
          refine ⟨fun _ => ⟨hh, ?_, .inl ⟨by omega, ⟨d, by rw [← hf']; exact hgt⟩, h0, by show x.asked + 1 = _; omega⟩⟩, fun l k m R h => by cases h⟩
          show x.passed = passe tl (x.asked + 1)
          rw [hps, hg.pas]
          simp [h31]
    · obtain ⟨k, hk, hdt⟩ := hg.left (by rw [hl]; simp)
      rw [lookL_fin hl]
      have hc := hg.cnt
      rw [hl] at hc
      simp at hc
      refine ⟨fun he => ?_, fun l k' m R he => ?_⟩
      · unfold aheadE at he; rw [hl] at he; simp [itemsOf] at he
      · unfold aheadE at he
        rw [hl] at he
        simp only [itemsOf, List.cons_append, List.cons.injEq, Prod.mk.injEq] at he
        obtain ⟨⟨rfl, rfl, rfl⟩, rfl⟩ := he
        refine ⟨⟨hg.n, hg.ask, hg.err, hg.pas, fun _ => ⟨k, hk, hdt⟩, by show x.counted + 1 + r.length ≤ C; omega, hg.fin⟩, rfl, rfl, rfl, by show (x.asked : Int) - 1 = _; omega, by show ((x.counted : Int) + 1) = _; omega, by show x.asked = _; omega, ?_, rfl⟩
        show tl[x.asked - 1]? = some (x.data, 0)
        rw [show x.asked - 1 = k by omega]; exact hdt
end Go.Proofs.Ytlckloeeimilhaa
