/- The state behind t takes, and what Behind says. -/
import Derived.Test.YtlckloeeimilhaaY
namespace Go.Proofs.Ytlckloeeimilhaa
set_option linter.unusedSimpArgs false
set_option linter.unusedVariables false
open Go.RowKit

theorem cntE_append (sep : Bool) (now : Nat) (a b : List Item) : cntE sep now (a ++ b) = cntE sep now a + cntE sep now b := by
  unfold cntE; rw [List.filter_append, List.length_append]
theorem cntE_all (now : Nat) (a : List Item) (h : ∀ x ∈ a, x.2.1 = now) : cntE true now a = a.length := by
  unfold cntE
  rw [List.filter_eq_self.2 (fun x hx => by simp [h x hx])]
theorem cntE_none (now : Nat) (a : List Item) (h : ∀ x ∈ a, x.2.1 ≠ now) : cntE true now a = 0 := by
  unfold cntE
  rw [List.filter_eq_nil_iff.2 (fun x hx => by simp [h x hx])]; rfl
theorem cntE_false (now : Nat) (a : List Item) : cntE false now a = a.length := by
  unfold cntE
  rw [List.filter_eq_self.2 (fun x hx => by simp)]
theorem itemsOf_in (k : Nat) (ls : List Ln) (m : Nat) : ∀ x ∈ itemsOf k m ls, x.2.1 = k := by
  intro x hx
  obtain ⟨i, hi, rfl⟩ := List.mem_iff_getElem.1 hx
  have := itemsOf_get k ls m i (by rwa [itemsOf_length] at hi)
  rw [List.getElem?_eq_getElem hi] at this
  simp only [Option.some.injEq] at this
  rw [this]
theorem items_num : ∀ (tl : List Tl) (k t : Nat) (x : Item), (itemsE k tl)[t]? = some x → x.2.2 = cntE true x.2.1 ((itemsE k tl).take (t + 1)) := by
  intro tl
  induction tl with
  | nil => intro k t x h; simp [itemsE] at h
  | cons a r ih =>
    obtain ⟨d, e⟩ := a
    intro k t x h
    rw [itemsE] at h ⊢
    split at h
    · rename_i h31; rw [if_pos h31]; exact ih (k + 1) t x h
    · rename_i h31
      rw [if_neg h31]
      split at h
      · rename_i h0
        rw [if_pos h0]
        have hl := itemsOf_length k (splitL d) 0
        by_cases ht : t < (itemsOf k 0 (splitL d)).length
        · rw [List.getElem?_append_left ht, itemsOf_get k (splitL d) 0 t (by omega)] at h
          simp only [Option.some.injEq] at h
          subst h
          rw [List.take_append_of_le_length (by omega), cntE_all k _ (fun y hy => itemsOf_in k _ 0 y (List.mem_of_mem_take hy)), List.length_take]
          show 0 + t + 1 = _
          omega
        · rw [List.getElem?_append_right (by omega)] at h
          have h1 := ih (k + 1) _ x h
          have h2 := itemsE_in r (k + 1) x (List.mem_of_getElem? h)
          rw [List.take_append, List.take_of_length_le (by omega), cntE_append, cntE_none _ _ (fun y hy => by have := itemsOf_in k _ 0 y hy; omega), Nat.zero_add]
          rw [h1]
          congr 2
          omega
      · simp at h

/-- The state behind t takes. -/
structure TS (C : Nat) (tl : List Tl) (sep : Bool) (x : IS) (t : Nat) : Prop where
  le : t ≤ (itemsE 0 tl).length
  sp : x.sep = sep
  tak : x.taken = t
  nx : ∀ l k m, (itemsE 0 tl)[t]? = some (l, k, m) → NextE C tl l k m ((itemsE 0 tl).drop (t + 1)) x
  en : t = (itemsE 0 tl).length → EndE tl x
  now : 0 < t → ∃ l k m, (itemsE 0 tl)[t - 1]? = some (l, k, m) ∧ x.ct = l.1 ∧ x.cwh = l.2 ∧ x.ci = (k : Int) ∧ x.cn = (m : Int) ∧ tl[k]? = some (x.nowd, 0) ∧ x.fresh = (decide (1 < t) && ((itemsE 0 tl)[t - 2]?.map (fun y => y.2.1 != k)).getD false)

theorem drop_some {α : Type} {l : List α} {t : Nat} {x : α} (h : l[t]? = some x) : l.drop t = x :: l.drop (t + 1) := by
  obtain ⟨hl, rfl⟩ := List.getElem?_eq_some_iff.1 h
  exact List.drop_eq_getElem_cons hl

theorem TS.start (C : Nat) (tl : List Tl) (hC : ∀ d ∈ tl, d.1.size ≤ C) (sep : Bool) : TS C tl sep (look0 tl sep) 0 := by
  have hg : GoodE C tl (is0 tl.length sep) := ⟨rfl, Nat.zero_le _, rfl, rfl, fun h => absurd rfl h, Nat.zero_le _, by show endE 0 (tl.drop 0) = _; rw [List.drop_zero]⟩
  have h := look_lawE C tl hC _ (is0 tl.length sep) rfl hg rfl
  have hs := lookL_same tl (is0 tl.length sep)
  have hd : tl.drop (is0 tl.length sep).asked = tl := List.drop_zero
  have ha : aheadE tl (is0 tl.length sep) = itemsE 0 tl := by
    unfold aheadE
    show itemsOf (0 - 1) 0 [] ++ itemsE 0 (tl.drop 0) = _
    rw [List.drop_zero]; rfl
  rw [hd, ha] at h
  refine ⟨Nat.zero_le _, hs.2.2.2, hs.1, fun l k m hx => ?_, fun h0 => ?_, fun h => by omega⟩
  · have := drop_some hx
    rw [List.drop_zero] at this
    exact h.2 l k m _ this
  · exact h.1 (List.length_eq_zero_iff.1 h0.symm)

theorem TS.step {C : Nat} {tl : List Tl} {sep : Bool} {x : IS} {t : Nat} (hC : ∀ d ∈ tl, d.1.size ≤ C) (h : TS C tl sep x t) (ht : t < (itemsE 0 tl).length) :
    ((looked tl x).err ≠ 0 → EndE tl (looked tl x) ∧ t + 1 = (itemsE 0 tl).length) ∧ ((looked tl x).err = 0 → TS C tl sep (took tl x) (t + 1)) := by
  obtain ⟨⟨l, k, m⟩, hx⟩ : ∃ z, (itemsE 0 tl)[t]? = some z := ⟨_, List.getElem?_eq_getElem ht⟩
  obtain ⟨hg, n1, n2, n3, n4, n5, n6, n7, n8⟩ := h.nx l k m hx
  have hg' : GoodE C tl { x with has := false } := ⟨hg.n, hg.ask, hg.err, hg.pas, hg.left, hg.cnt, hg.fin⟩
  have hL := look_lawE C tl hC _ { x with has := false } rfl hg' rfl
  have ha : aheadE tl { x with has := false } = (itemsE 0 tl).drop (t + 1) := n8
  rw [ha] at hL
  have hs := lookL_same (tl.drop x.asked) { x with has := false }
  have hlk : lookL (tl.drop ({ x with has := false } : IS).asked) { x with has := false } = looked tl x := rfl
  rw [hlk] at hL
  constructor
  · intro he
    by_cases hend : t + 1 = (itemsE 0 tl).length
    · exact ⟨hL.1 (List.drop_of_length_le (by omega)), hend⟩
    · exfalso
      obtain ⟨⟨l', k', m'⟩, hx'⟩ : ∃ z, (itemsE 0 tl)[t + 1]? = some z := ⟨_, List.getElem?_eq_getElem (by omega)⟩
      exact he (hL.2 l' k' m' _ (drop_some hx')).1.err
  · intro he
    refine ⟨by omega, ?_, ?_, fun l' k' m' hx' => ?_, fun hend => ?_, fun _ => ?_⟩
    · show (looked tl x).sep = sep
      rw [show (looked tl x).sep = x.sep from hs.2.2.2]; exact h.sp
    · show x.taken + 1 = t + 1
      rw [h.tak]
    · obtain ⟨g1, g2⟩ := hL.2 l' k' m' _ (drop_some hx')
      exact ⟨⟨g1.n, g1.ask, g1.err, g1.pas, g1.left, g1.cnt, g1.fin⟩, g2⟩
    · exact hL.1 (List.drop_of_length_le (by omega))
    · refine ⟨l, k, m, by rw [Nat.add_sub_cancel]; exact hx, n2, n3, n4, n5, n7, ?_⟩
      show (decide (0 < x.taken) && (x.ni != x.ci)) = _
      rw [h.tak, n4]
      by_cases h0 : 0 < t
      · obtain ⟨l2, k2, m2, hx2, _, _, c3, _⟩ := h.now h0
        rw [c3, show t + 1 - 2 = t - 1 by omega, hx2, bne_cast]
        have e1 : decide (0 < t) = true := decide_eq_true h0
        have e2 : decide (1 < t + 1) = true := decide_eq_true (by omega)
        rw [e1, e2]
        show (true && (k != k2)) = (true && (k2 != k))
        by_cases hk : k = k2
        · subst hk; rfl
        · have a1 : (k != k2) = true := by simpa using hk
          have a2 : (k2 != k) = true := by simpa using (fun e => hk (Eq.symm e))
          rw [a1, a2]
      · have e1 : decide (0 < t) = false := decide_eq_false h0
        have e2 : decide (1 < t + 1) = false := decide_eq_false (by omega)
        rw [e1, e2]; rfl

/-- What was asked for, met and passed over. -/
theorem TS.ask {C : Nat} {tl : List Tl} {sep : Bool} {x : IS} {t : Nat} (h : TS C tl sep x t) : x.asked = (behB tl t sep).asked ∧ x.err = (behB tl t sep).err ∧ x.passed = (behB tl t sep).passed ∧ (behB tl t sep).found = x.has := by
  have e1 : (behB tl t sep).asked = aske (itemsE 0 tl) (endE 0 tl) tl.length t := by unfold behB; simp only []; split <;> rfl
  have e2 : (behB tl t sep).err = erre (itemsE 0 tl) (endE 0 tl) tl t := by unfold behB; simp only []; split <;> rfl
  have e3 : (behB tl t sep).passed = passe tl (aske (itemsE 0 tl) (endE 0 tl) tl.length t) := by unfold behB; simp only []; split <;> rfl
  have e4 : (behB tl t sep).found = decide (t < (itemsE 0 tl).length) := by unfold behB; simp only []; split <;> rfl
  rw [e1, e2, e3, e4]
  by_cases ht : t < (itemsE 0 tl).length
  · obtain ⟨⟨l, k, m⟩, hx⟩ : ∃ z, (itemsE 0 tl)[t]? = some z := ⟨_, List.getElem?_eq_getElem ht⟩
    obtain ⟨hg, n1, n2, n3, n4, n5, n6, n7, n8⟩ := h.nx l k m hx
    have hx' : (itemsE 0 tl)[t] = (l, k, m) := by rw [List.getElem?_eq_getElem ht] at hx; simpa using hx
    have ea : aske (itemsE 0 tl) (endE 0 tl) tl.length t = k + 1 := by unfold aske; rw [dif_pos ht, hx']
    have ee : erre (itemsE 0 tl) (endE 0 tl) tl t = 0 := by unfold erre; rw [if_pos ht]
    rw [ea, ee]
    exact ⟨n6, hg.err, by rw [hg.pas, n6], by rw [n1]; exact decide_eq_true ht⟩
  · obtain ⟨g1, g2, g3⟩ := h.en (by have := h.le; omega)
    rcases g3 with ⟨a1, ⟨d, a2⟩, a3, a4⟩ | ⟨a1, a2, a3⟩
    · have ea : aske (itemsE 0 tl) (endE 0 tl) tl.length t = endE 0 tl + 1 := by unfold aske; rw [dif_neg ht, if_pos a1]
      have ee : erre (itemsE 0 tl) (endE 0 tl) tl t = x.err := by
        unfold erre; rw [if_neg ht, dif_pos a1]
        rw [List.getElem?_eq_getElem a1] at a2
        simp only [Option.some.injEq] at a2
        rw [a2]
      rw [ea, ee]
      exact ⟨a4, rfl, by rw [g2, a4], by rw [g1]; exact decide_eq_false ht⟩
    · have ea : aske (itemsE 0 tl) (endE 0 tl) tl.length t = tl.length := by unfold aske; rw [dif_neg ht, if_neg (by omega)]
      have ee : erre (itemsE 0 tl) (endE 0 tl) tl t = 0 := by unfold erre; rw [if_neg ht, dif_neg (by omega)]
      rw [ea, ee]
      exact ⟨a3, a2, by rw [g2, a3], by rw [g1]; exact decide_eq_false ht⟩

theorem TS.same {C : Nat} {tl : List Tl} {sep : Bool} {x : IS} {t : Nat} (h : TS C tl sep x t) (h0 : 0 < t) : SameB x (behB tl t sep) ∧ (behB tl t sep).lt = x.ct ∧ (behB tl t sep).lw = x.cwh := by
  obtain ⟨a1, a2, a3, a4⟩ := h.ask
  obtain ⟨⟨lt, lb⟩, k, m, hx, c1, c2, c3, c4, c5, c6⟩ := h.now h0
  have hle := h.le
  have hx' : (itemsE 0 tl)[t - 1]'(by omega) = ((lt, lb), k, m) := by rw [List.getElem?_eq_getElem (by omega)] at hx; simpa using hx
  have hb := behB_pos (tl := tl) (t := t) (sep := sep) (I := itemsE 0 tl) (E := endE 0 tl) (A := _) (R := _) (s := t - 1) (lt := lt) (lb := lb) (kk := k) (mm := m) (dd := x.nowd) (LB := _) (FB := _) rfl rfl rfl rfl (by omega) (by omega) hx' c5 rfl rfl
  have ht0 : ¬ x.taken = 0 := by rw [h.tak]; omega
  have hd : decide (0 < x.taken) = true := by rw [h.tak]; exact decide_eq_true h0
  refine ⟨⟨?_, ?_, ?_, ?_, a3, ?_, a2⟩, by rw [hb]; exact c1.symm, by rw [hb]; exact c2.symm⟩
  · rw [hb, hd, h.sp]
    show (true && (!x.has || (sep && (x.ni != x.ci)))) = (decide (t = (itemsE 0 tl).length) || (sep && ((itemsE 0 tl)[t]?.map (fun y => y.2.1 != k)).getD false))
    by_cases ht : t < (itemsE 0 tl).length
    · obtain ⟨⟨l', k', m'⟩, hx2⟩ : ∃ z, (itemsE 0 tl)[t]? = some z := ⟨_, List.getElem?_eq_getElem ht⟩
      obtain ⟨hg, n1, n2, n3, n4, n5, n6, n7, n8⟩ := h.nx l' k' m' hx2
      have e : decide (t = (itemsE 0 tl).length) = false := decide_eq_false (by omega)
      rw [e, n1, n4, c3, hx2, bne_cast]
      simp
    · obtain ⟨g1, _⟩ := h.en (by omega)
      have e : decide (t = (itemsE 0 tl).length) = true := decide_eq_true (by omega)
      rw [e, g1]
      simp
  · rw [hb, if_neg ht0, h.sp]
    show (if sep = true then x.cn else (x.taken : Int)) = ((cntE sep k ((itemsE 0 tl).take t) : Nat) : Int)
    cases sep with
    | false =>
      rw [cntE_false, List.length_take, h.tak]
      simp only [Bool.false_eq_true, if_false]
      omega
    | true =>
      have hn := items_num tl 0 (t - 1) _ hx
      rw [show t - 1 + 1 = t by omega] at hn
      rw [if_pos rfl, c4]
      have : m = cntE true k ((itemsE 0 tl).take t) := hn
      omega
  · rw [hb, if_neg ht0]; exact c3
  · rw [hb, hd, c6]
    simp
  · rw [hb, if_neg ht0]
end Go.Proofs.Ytlckloeeimilhaa
