/- begins; plain laws of a path's text. -/
import Derived.Test.YtnfnjobgkpefdaaDoorU
namespace Go.Proofs.YtnfnjobgkpefdaaDoor
set_option linter.unusedSimpArgs false
set_option linter.unusedVariables false
open Go.RowKit

theorem baL_bsL (p : List ByteArray) : baL (bsL p) = p := by
  unfold baL bsL
  rw [List.map_map]
  have : ((fun x : Bs => (⟨x.toArray⟩ : ByteArray)) ∘ fun s : ByteArray => s.data.toList) = id := by
    funext x; exact ba_ext rfl
  rw [this, List.map_id]
theorem names_of {p : List ByteArray} (h : rightL p = true) : (∀ n ∈ bsL p, 47 ∉ n ∧ n ≠ [] ∧ n.length ≤ 255 ∧ 0 ∉ n ∧ n ≠ [46] ∧ n ≠ [46, 46]) ∧ max (sumL p) 1 ≤ 1024 := by
  unfold rightL namesL at h
  simp only [Bool.and_eq_true, decide_eq_true_eq, List.all_eq_true] at h
  refine ⟨fun n hn => ?_, h.1⟩
  obtain ⟨s, hs, rfl⟩ := List.mem_map.1 hn
  obtain ⟨h1, h2, h3, h4, h5, h6⟩ := nameL_ne (h.2 s hs)
  exact ⟨h3, h1, h2, h4, h5, h6⟩
theorem normB_names : ∀ l : List Bs, (∀ n ∈ l, n ≠ [] ∧ n ≠ [46] ∧ n ≠ [46, 46]) → normB l = l := by
  have key : ∀ (l p : List Bs), (∀ n ∈ l, n ≠ [] ∧ n ≠ [46] ∧ n ≠ [46, 46]) → l.foldl stepB p = p ++ l := by
    intro l
    induction l with
    | nil => intro p _; simp
    | cons a l ih =>
      intro p h
      obtain ⟨h1, h2, h3⟩ := h a (List.mem_cons_self ..)
      rw [List.foldl_cons, ih _ (fun n hn => h n (List.mem_cons_of_mem _ hn))]
      have : stepB p a = p ++ [a] := by
        unfold stepB
        rw [if_neg (by simp [h1, h2]), if_neg h3]
      rw [this, List.append_assoc]
      rfl
  intro l h
  exact key l [] h
theorem text_back {l : List Bs} (h : ∀ n ∈ l, 47 ∉ n ∧ n ≠ [] ∧ n.length ≤ 255 ∧ 0 ∉ n ∧ n ≠ [46] ∧ n ≠ [46, 46]) : normB (splitB (textL l)) = l ∧ (∀ x ∈ splitB (textL l), x.length ≤ 255) ∧ 0 ∉ textL l := by
  cases l with
  | nil => exact ⟨rfl, by decide, by decide⟩
  | cons a r =>
    have hs := splitB_text (a :: r) (by simp) (fun n hn => (h n hn).1)
    refine ⟨?_, ?_, ?_⟩
    · rw [hs]
      have e : normB ([] :: a :: r) = normB (a :: r) := rfl
      rw [e]
      exact normB_names _ (fun n hn => ⟨(h n hn).2.1, (h n hn).2.2.2.2.1, (h n hn).2.2.2.2.2⟩)
    · rw [hs]
      intro x hx
      rcases List.mem_cons.1 hx with rfl | hx
      · simp
      · exact (h x hx).2.2.1
    · have key : ∀ l : List Bs, (∀ n ∈ l, 0 ∉ n) → 0 ∉ textL l := by
        intro l
        induction l with
        | nil => intro _; decide
        | cons b l ih =>
          intro h1
          cases l with
          | nil =>
            rw [textL]
            intro e
            rcases List.mem_cons.1 e with e | e
            · cases e
            · exact h1 b (by simp) e
          | cons c l =>
            rw [textL]
            intro e
            rcases List.mem_cons.1 e with e | e
            · cases e
            · rcases List.mem_append.1 e with e | e
              · exact h1 b (by simp) e
              · exact ih (fun n hn => h1 n (List.mem_cons_of_mem _ hn)) e
      exact key _ (fun n hn => (h n hn).2.2.2.1)

theorem nilTx (w : World) : Tx w (.slice none 0 0) [] := ⟨none, 0, rfl, by simp, fun h => by simp at h⟩

set_option maxRecDepth 100000 in
set_option maxHeartbeats 3200000 in
theorem begins_any (w : World) (hs : Sh w) :
    Calls Tryd.prog 4 #[] w fun e w' => e = .returned (.bool true) ∧ Below w.heap.size w w' := by
  have HN := Lib.hid (Normal_any (.slice none 0 0) [] ⟨#[47, 97, 47, 46, 47, 98, 47, 47, 99, 47, 46, 46, 47, 100]⟩ w (nilTx w) (by decide) (by decide) (by decide) (by decide) (by rfl) (by decide) (by decide) (by decide))
  have HQ := Lib.hid (fun W (hb : Below w.heap.size w W) => Quote_any ⟨#[97, 10]⟩ W (hs.to hb) (by decide))
  have hq : (⟨(quote (⟨#[97, 10]⟩ : ByteArray).data.toList).toArray⟩ : ByteArray) = ⟨#[34, 97, 92, 110, 34]⟩ := rfl
  rw [hq] at HQ
  clear hs hq
  go_enter Tryd.func4, Tryd.ntmps4
  go_wp2_with fail
  refine HN.out.mono ?_
  rintro e w1 ⟨⟨v, b, rfl, ht⟩, hb⟩
  have HB := Lib.hid hb
  have HT := Lib.hid ht
  clear hb
  have hT : Tx w1 v [⟨#[97]⟩, ⟨#[98]⟩, ⟨#[100]⟩] := ht
  obtain ⟨ao, cap, rfl, -, hc⟩ := hT
  obtain ⟨B, off, rfl, hB, hcc⟩ := hc (by decide)
  have c2 := hcc 2 (by decide)
  clear hc hcc ht
  go_wp2_with fail
  refine (HQ.out _ HB.out).mono ?_
  rintro e w2 ⟨rfl, hb⟩
  have HB2 := Lib.hid (bl_to HB.out hb)
  clear hb
  go_wp2_with fail
  go_ret
  exact ⟨rfl, HB2.out⟩
end Go.Proofs.YtnfnjobgkpefdaaDoor
