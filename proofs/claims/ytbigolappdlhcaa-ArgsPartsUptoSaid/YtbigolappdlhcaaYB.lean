/- Plain laws of reading: how large; where the fault is. -/
import Derived.Test.YtbigolappdlhcaaY
import Derived.Test.YtbigolappdlhcaaW
namespace Go.Proofs.Ytbigolappdlhcaa
set_option linter.unusedSimpArgs false
set_option linter.unusedVariables false
open Go.RowKit

def szA (B : Nat) (a : Av) : Prop := ∀ p ∈ a.scr, p.2.size ≤ B
theorem ext_le (s : ByteArray) (a b : Nat) : (s.extract a b).size ≤ s.size := by rw [ByteArray.size_extract]; omega
theorem valOf_le (s : ByteArray) : (valOf s).size ≤ s.size := by
  unfold valOf
  split
  · exact ext_le _ _ _
  · exact Nat.zero_le _
theorem szA_do {B : Nat} {a : Av} (h : szA B a) (s : ByteArray) (k : Nat) (hk : k < 6) (hs : s.size ≤ B) : szA B (doOpt a s k) := by
  rcases (show k = 0 ∨ k = 1 ∨ k = 2 ∨ k = 3 ∨ k = 4 ∨ k = 5 by omega) with rfl | rfl | rfl | rfl | rfl | rfl
  · exact h
  · exact h
  · exact h
  · intro p hp; rcases List.mem_append.1 hp with hp | hp; (exact h p hp); (simp at hp; subst hp; exact hs)
  · intro p hp; rcases List.mem_append.1 hp with hp | hp; (exact h p hp); (simp at hp; subst hp; exact hs)
  · exact h
theorem szA_long {B : Nat} {a a' : Av} {s : ByteArray} (h : szA B a) (hs : s.size ≤ B) (hl : longL a s = some a') : szA B a' := by
  unfold longL at hl
  split at hl
  · cases hl
  · rename_i k hk
    have hlt := (optOf_lt hk).1
    split at hl
    · simp only [Option.some.injEq] at hl
      subst hl
      exact szA_do h _ _ hlt (Nat.le_trans (valOf_le s) hs)
    · cases hl
theorem szA_short {B : Nat} (s : ByteArray) (more : List ByteArray) (hs : s.size ≤ B) (hm : ∀ t ∈ more, t.size ≤ B) : ∀ (n : Nat) (a : Av), szA B a → szA B (shortF s more n a).2.2 := by
  intro n
  induction n with
  | zero => intro a h; exact h
  | succ n ih =>
    intro a h
    rw [shortF]
    split
    · exact h
    · rename_i k hk
      have hlt := (optOf_lt hk).1
      have hb : (behind s (s.size - (n + 1))).size ≤ B := Nat.le_trans (ext_le _ _ _) hs
      split
      · split
        · exact szA_do h _ _ hlt hb
        · exact h
      · split
        · unfold valF
          split
          · cases more with
            | nil => exact h
            | cons m r => exact szA_do h _ _ hlt (hm m (by simp))
          · exact szA_do h _ _ hlt hb
        · exact ih _ (szA_do h _ _ hlt (Nat.zero_le _))
theorem szA_read {B : Nat} (l : List ByteArray) (hl : ∀ s ∈ l, s.size ≤ B) : ∀ (n i : Nat) (a : Av), l.length - i ≤ n → szA B a → ∀ j b, readW l i a = .inr (j, b) → szA B b := by
  intro n
  induction n with
  | zero =>
    intro i a hn h j b hr
    rw [readW, dif_neg (by omega)] at hr
    simp only [Sum.inr.injEq, Prod.mk.injEq] at hr
    obtain ⟨-, rfl⟩ := hr
    exact h
  | succ n ih =>
    intro i a hn h j b hr
    rw [readW] at hr
    by_cases hi : i < l.length
    · rw [dif_pos hi] at hr
      have hz : l[i].size ≤ B := hl _ (List.getElem_mem hi)
      split at hr
      · simp only [Sum.inr.injEq, Prod.mk.injEq] at hr
        obtain ⟨-, rfl⟩ := hr
        exact h
      split at hr
      · simp only [Sum.inr.injEq, Prod.mk.injEq] at hr
        obtain ⟨-, rfl⟩ := hr
        exact h
      split at hr
      · split at hr
        · cases hr
        · rename_i a' ha'
          exact ih _ _ (by omega) (szA_long h (Nat.le_trans (tail2_le _) hz) ha') _ _ hr
      split at hr
      · cases hr
      split at hr
      · cases hr
      exact ih _ _ (by omega) (szA_short _ _ (Nat.le_trans (ext_le _ _ _) hz) (fun t ht => hl t (List.mem_of_mem_drop ht)) _ _ h) _ _ hr
    · rw [dif_neg hi] at hr
      simp only [Sum.inr.injEq, Prod.mk.injEq] at hr
      obtain ⟨-, rfl⟩ := hr
      exact h
theorem read_sizes {B : Nat} {l : List ByteArray} {a : Av} {c : Int} {k : Nat} (hl : ∀ s ∈ l, s.size ≤ B) (h : readL l = (some a, c, k)) : (∀ p ∈ a.scr, p.2.size ≤ B) ∧ (∀ s ∈ a.nam, s.size ≤ B) := by
  unfold readL at h
  split at h
  · cases h
  · cases hR : readW l 0 zeroAv with
    | inl j => rw [hR] at h; cases h
    | inr x =>
      obtain ⟨j, b⟩ := x
      have hg : szA B b := szA_read l hl l.length 0 zeroAv (by omega) (by intro p hp; simp [zeroAv] at hp) j b hR
      rw [hR] at h
      have h' : (if b.scr = [] then (match l.drop j with | [] => (none, 260, l.length) | t :: r => (some { b with scr := [(false, t)], nam := r }, 0, 0)) else (some { b with nam := l.drop j }, (0 : Int), (0 : Nat))) = (some a, c, k) := h
      have hd : ∀ s ∈ l.drop j, s.size ≤ B := fun s hs => hl s (List.mem_of_mem_drop hs)
      by_cases hs : b.scr = []
      · rw [if_pos hs] at h'
        cases hdr : l.drop j with
        | nil => rw [hdr] at h'; simp at h'
        | cons t r =>
          rw [hdr] at h' hd
          simp only [Prod.mk.injEq, Option.some.injEq] at h'
          rw [← h'.1]
          exact ⟨by intro p hp; simp at hp; subst hp; exact hd t (by simp), fun s hs => hd s (by simp [hs])⟩
      · rw [if_neg hs] at h'
        simp only [Prod.mk.injEq, Option.some.injEq] at h'
        rw [← h'.1]
        exact ⟨hg, hd⟩
theorem printL_sizes {B : Nat} {a : Av} (h1 : ∀ p ∈ a.scr, p.2.size ≤ B) (h2 : ∀ s ∈ a.nam, s.size ≤ B) (h3 : a.suf.size ≤ 255) (hB : 257 ≤ B) : ∀ s ∈ printL a, s.size ≤ B := by
  intro s hs
  have hopt : ∀ q e si i, s ∈ optL q e si i a.suf → s.size ≤ B := by
    intro q e si i h
    unfold optL at h
    have e1 : (⟨#[45, 110]⟩ : ByteArray).size = 2 := rfl
    have e2 : (⟨#[45, 69]⟩ : ByteArray).size = 2 := rfl
    have e3 : (⟨#[45, 115]⟩ : ByteArray).size = 2 := rfl
    have e4 : (⟨#[45, 105]⟩ : ByteArray).size = 2 := rfl
    rcases List.mem_append.1 h with h | h
    · cases q <;> simp at h; subst h; omega
    rcases List.mem_append.1 h with h | h
    · cases e <;> simp at h; subst h; omega
    rcases List.mem_append.1 h with h | h
    · cases si <;> simp at h; subst h; omega
    · cases i <;> simp at h; subst h; rw [ByteArray.size_append]; omega
  unfold printL at hs
  rcases List.mem_append.1 hs with hs | hs
  · exact hopt _ _ _ _ hs
  rcases List.mem_append.1 hs with hs | hs
  · unfold pieceL at hs
    obtain ⟨p, hp, hs⟩ := List.mem_flatMap.1 hs
    have e2 : (⟨#[45, 102]⟩ : ByteArray).size = 2 := rfl
    have e3 : (⟨#[45, 101]⟩ : ByteArray).size = 2 := rfl
    simp at hs
    rcases hs with rfl | rfl
    · split <;> omega
    · exact h1 p hp
  rcases List.mem_cons.1 hs with rfl | hs
  · show 2 ≤ B; omega
  · exact h2 s hs

theorem readW_le (l : List ByteArray) : ∀ (n i : Nat) (a : Av), l.length - i ≤ n → ∀ k, readW l i a = .inl k → k ≤ l.length := by
  intro n
  induction n with
  | zero =>
    intro i a hn k hr
    rw [readW, dif_neg (by omega)] at hr
    cases hr
  | succ n ih =>
    intro i a hn k hr
    rw [readW] at hr
    by_cases hi : i < l.length
    · rw [dif_pos hi] at hr
      split at hr
      · cases hr
      split at hr
      · cases hr
      split at hr
      · split at hr
        · simp only [Sum.inl.injEq] at hr; omega
        · exact ih _ _ (by omega) _ hr
      split at hr
      · simp only [Sum.inl.injEq] at hr; omega
      split at hr
      · simp only [Sum.inl.injEq] at hr; omega
      exact ih _ _ (by omega) _ hr
    · rw [dif_neg hi] at hr
      cases hr
theorem read_le {l : List ByteArray} {c : Int} {k : Nat} (h : readL l = (none, c, k)) : k ≤ l.length := by
  unfold readL at h
  split at h
  · simp only [Prod.mk.injEq] at h; omega
  · cases hR : readW l 0 zeroAv with
    | inl j =>
      have := readW_le l l.length 0 zeroAv (by omega) j hR
      rw [hR] at h
      simp only [endW, Prod.mk.injEq] at h; omega
    | inr x =>
      obtain ⟨j, b⟩ := x
      rw [hR] at h
      have h' : (if b.scr = [] then (match l.drop j with | [] => (none, 260, l.length) | t :: r => (some { b with scr := [(false, t)], nam := r }, 0, 0)) else (some { b with nam := l.drop j }, (0 : Int), (0 : Nat))) = (none, c, k) := h
      by_cases hs : b.scr = []
      · rw [if_pos hs] at h'
        cases hdr : l.drop j with
        | nil => rw [hdr] at h'; simp only [Prod.mk.injEq] at h'; omega
        | cons t r => rw [hdr] at h'; simp at h'
      · rw [if_neg hs] at h'; simp at h'
end Go.Proofs.Ytbigolappdlhcaa
