/- The reference's long options: facts. -/
import Derived.Test.YtbigolappdlhcaaRC
namespace Go.Proofs.Ytbigolappdlhcaa
set_option linter.unusedSimpArgs false
set_option linter.unusedVariables false
open Go.RowKit

def longR (a : Av) (t : ByteArray) : Int × Bool × Av := match longL a t with | none => (0, false, a) | some a' => (0, true, a')
def lead (s t : ByteArray) : Prop := s.data.toList = 45 :: 45 :: t.data.toList
theorem lead_tail2 {s : ByteArray} (h : Lib.hasPrefix s.data.toList [45, 45] = true) : lead s (tail2 s) := by
  unfold lead tail2
  show _ = 45 :: 45 :: (Lib.trimPrefix s.data.toList [45, 45])
  unfold Lib.trimPrefix
  rw [if_pos h]
  obtain ⟨r, hr⟩ := List.isPrefixOf_iff_prefix.1 h
  rw [← hr]
  rfl
theorem lead_size {s t : ByteArray} (h : lead s t) : s.size = t.size + 2 := by
  have := congrArg List.length h
  simpa using this
theorem lead_eqAt {s t : ByteArray} (h : lead s t) : eqAt s = eqAt t + 2 := by
  unfold eqAt
  rw [show s.data.toList = 45 :: 45 :: t.data.toList from h, List.findIdx_cons, List.findIdx_cons]
  rfl
theorem lead_eqIs {s t : ByteArray} (h : lead s t) : eqIs s = eqIs t := by
  unfold eqIs
  rw [lead_eqAt h, lead_size h]
  by_cases hh : eqAt t < t.size
  · rw [decide_eq_true hh, decide_eq_true (by omega)]
  · rw [decide_eq_false hh, decide_eq_false (by omega)]
theorem lead_nm {s t : ByteArray} (h : lead s t) : (nmOf s).data.toList = 45 :: 45 :: (nmOf t).data.toList := by
  unfold nmOf
  rw [ba_extract, ba_extract, lead_eqAt h, show s.data.toList = 45 :: 45 :: t.data.toList from h]
  rfl
theorem lead_val {s t : ByteArray} (h : lead s t) : valOf s = valOf t := by
  unfold valOf
  rw [lead_eqAt h, lead_size h]
  by_cases hh : eqAt t < t.size
  · rw [if_pos hh, if_pos (by omega)]
    apply ba_ext
    rw [ba_extract, ba_extract, show s.data.toList = 45 :: 45 :: t.data.toList from h]
    rfl
  · rw [if_neg hh, if_neg (by omega)]
theorem at_toNat {s : ByteArray} {k : Nat} (hk : k < s.size) : s[k] = s.data.toList[k]'(by simpa using hk) := rfl
theorem eqAt_ne {s : ByteArray} {k : Nat} (h : k < eqAt s) (hk : k < s.size) : ((s[k].toNat : Int) == 61) = false := by
  have h1 := List.not_of_lt_findIdx (p := fun x : UInt8 => x == 61) (xs := s.data.toList) (i := k) h
  rw [at_toNat hk]
  simp only [beq_eq_false_iff_ne, ne_eq, Bool.not_eq_true] at h1 ⊢
  intro e
  exact h1 (UInt8.toNat_inj.1 (by have e2 : ((s.data.toList[k]'(by simpa using hk)).toNat : Int) = 61 := e; show (s.data.toList[k]'(by simpa using hk)).toNat = 61; omega))
theorem eqAt_is {s : ByteArray} {k : Nat} (h : k = eqAt s) (hk : k < s.size) : ((s[k].toNat : Int) == 61) = true := by
  subst h
  have h1 := List.findIdx_getElem (p := fun x : UInt8 => x == 61) (xs := s.data.toList) (w := (show eqAt s < s.data.toList.length by simpa using hk))
  rw [at_toNat hk]
  have h2 : s.data.toList[eqAt s]'(by simpa using hk) = 61 := beq_iff_eq.1 h1
  rw [h2]
  rfl
theorem optOf_noneD {p : Nat → Bool} (h : optOf p = none) : p 0 = false ∧ p 1 = false ∧ p 2 = false ∧ p 3 = false ∧ p 4 = false ∧ p 5 = false := by
  unfold optOf at h
  repeat' split at h
  all_goals simp_all
theorem nm_cmp {n m : ByteArray} (h : n.data.toList = 45 :: 45 :: m.data.toList) (c : List UInt8) : (n.toList == (45 :: 45 :: c)) = decide (m = ⟨c.toArray⟩) := by
  rw [ByteArray.toList_eq, h]
  by_cases hc : m = ⟨c.toArray⟩
  · subst hc; simp
  · rw [decide_eq_false hc]
    simp only [beq_eq_false_iff_ne, ne_eq, List.cons.injEq, true_and]
    intro e
    exact hc (ba_ext (by simpa using e))
/-- A name beside the seven. -/
def Cmp (n : ByteArray) (b : Fin 8) : Prop := (n.toList == [45, 45, 113, 117, 105, 101, 116]) = decide (b = 0) ∧ (n.toList == [45, 45, 115, 105, 108, 101, 110, 116]) = decide (b = 1) ∧ (n.toList == [45, 45, 114, 101, 103, 101, 120, 112, 45, 101, 120, 116, 101, 110, 100, 101, 100]) = decide (b = 2) ∧ (n.toList == [45, 45, 115, 101, 112, 97, 114, 97, 116, 101]) = decide (b = 3) ∧ (n.toList == [45, 45, 105, 110, 45, 112, 108, 97, 99, 101]) = decide (b = 4) ∧ (n.toList == [45, 45, 101, 120, 112, 114, 101, 115, 115, 105, 111, 110]) = decide (b = 5) ∧ (n.toList == [45, 45, 102, 105, 108, 101]) = decide (b = 6)
theorem cmp_of {n m : ByteArray} (h : n.data.toList = 45 :: 45 :: m.data.toList) (b : Fin 8) (h0 : decide (m = ⟨#[113, 117, 105, 101, 116]⟩) = decide (b = 0)) (h1 : decide (m = ⟨#[115, 105, 108, 101, 110, 116]⟩) = decide (b = 1)) (h2 : decide (m = ⟨#[114, 101, 103, 101, 120, 112, 45, 101, 120, 116, 101, 110, 100, 101, 100]⟩) = decide (b = 2)) (h3 : decide (m = ⟨#[115, 101, 112, 97, 114, 97, 116, 101]⟩) = decide (b = 3)) (h4 : decide (m = ⟨#[105, 110, 45, 112, 108, 97, 99, 101]⟩) = decide (b = 4)) (h5 : decide (m = ⟨#[101, 120, 112, 114, 101, 115, 115, 105, 111, 110]⟩) = decide (b = 5)) (h6 : decide (m = ⟨#[102, 105, 108, 101]⟩) = decide (b = 6)) : Cmp n b :=
  ⟨(nm_cmp h _).trans h0, (nm_cmp h _).trans h1, (nm_cmp h _).trans h2, (nm_cmp h _).trans h3, (nm_cmp h _).trans h4, (nm_cmp h _).trans h5, (nm_cmp h _).trans h6⟩
theorem cmp_none {n m : ByteArray} (h : n.data.toList = 45 :: 45 :: m.data.toList) (ho : optOf (isName m) = none) : Cmp n 7 := by
  obtain ⟨p0, p1, p2, p3, p4, p5⟩ := optOf_noneD ho
  simp only [isName, Bool.or_eq_false_iff] at p0 p1 p2 p3 p4 p5
  exact cmp_of h 7 p0.1 p0.2 p1 p2 p5 p3 p4
theorem cmp_some {n m : ByteArray} {k : Nat} (h : n.data.toList = 45 :: 45 :: m.data.toList) (ho : optOf (isName m) = some k) : (k = 0 ∧ (Cmp n 0 ∨ Cmp n 1)) ∨ (k = 1 ∧ Cmp n 2) ∨ (k = 2 ∧ Cmp n 3) ∨ (k = 3 ∧ Cmp n 5) ∨ (k = 4 ∧ Cmp n 6) ∨ (k = 5 ∧ Cmp n 4) := by
  obtain ⟨hk, hp⟩ := optOf_lt ho
  have key : ∀ (b : Fin 8) (c : List UInt8), m = ⟨c.toArray⟩ → decide (c = [113, 117, 105, 101, 116]) = decide (b = 0) → decide (c = [115, 105, 108, 101, 110, 116]) = decide (b = 1) → decide (c = [114, 101, 103, 101, 120, 112, 45, 101, 120, 116, 101, 110, 100, 101, 100]) = decide (b = 2) → decide (c = [115, 101, 112, 97, 114, 97, 116, 101]) = decide (b = 3) → decide (c = [105, 110, 45, 112, 108, 97, 99, 101]) = decide (b = 4) → decide (c = [101, 120, 112, 114, 101, 115, 115, 105, 111, 110]) = decide (b = 5) → decide (c = [102, 105, 108, 101]) = decide (b = 6) → Cmp n b := by
    intro b c hm h0 h1 h2 h3 h4 h5 h6
    refine cmp_of h b ?_ ?_ ?_ ?_ ?_ ?_ ?_
    · rw [← h0, hm]; exact decide_eq_decide.2 ⟨fun e => by have := congrArg (fun x : ByteArray => x.data.toList) e; simpa using this, fun e => by rw [e]⟩
    · rw [← h1, hm]; exact decide_eq_decide.2 ⟨fun e => by have := congrArg (fun x : ByteArray => x.data.toList) e; simpa using this, fun e => by rw [e]⟩
    · rw [← h2, hm]; exact decide_eq_decide.2 ⟨fun e => by have := congrArg (fun x : ByteArray => x.data.toList) e; simpa using this, fun e => by rw [e]⟩
    · rw [← h3, hm]; exact decide_eq_decide.2 ⟨fun e => by have := congrArg (fun x : ByteArray => x.data.toList) e; simpa using this, fun e => by rw [e]⟩
    · rw [← h4, hm]; exact decide_eq_decide.2 ⟨fun e => by have := congrArg (fun x : ByteArray => x.data.toList) e; simpa using this, fun e => by rw [e]⟩
    · rw [← h5, hm]; exact decide_eq_decide.2 ⟨fun e => by have := congrArg (fun x : ByteArray => x.data.toList) e; simpa using this, fun e => by rw [e]⟩
    · rw [← h6, hm]; exact decide_eq_decide.2 ⟨fun e => by have := congrArg (fun x : ByteArray => x.data.toList) e; simpa using this, fun e => by rw [e]⟩
  rcases (show k = 0 ∨ k = 1 ∨ k = 2 ∨ k = 3 ∨ k = 4 ∨ k = 5 by omega) with rfl | rfl | rfl | rfl | rfl | rfl
  · simp only [isName, Bool.or_eq_true, decide_eq_true_eq] at hp
    refine .inl ⟨rfl, ?_⟩
    rcases hp with hp | hp
    · exact .inl (key 0 _ hp (by decide) (by decide) (by decide) (by decide) (by decide) (by decide) (by decide))
    · exact .inr (key 1 _ hp (by decide) (by decide) (by decide) (by decide) (by decide) (by decide) (by decide))
  · simp only [isName, decide_eq_true_eq] at hp
    exact .inr (.inl ⟨rfl, key 2 _ hp (by decide) (by decide) (by decide) (by decide) (by decide) (by decide) (by decide)⟩)
  · simp only [isName, decide_eq_true_eq] at hp
    exact .inr (.inr (.inl ⟨rfl, key 3 _ hp (by decide) (by decide) (by decide) (by decide) (by decide) (by decide) (by decide)⟩))
  · simp only [isName, decide_eq_true_eq] at hp
    exact .inr (.inr (.inr (.inl ⟨rfl, key 5 _ hp (by decide) (by decide) (by decide) (by decide) (by decide) (by decide) (by decide)⟩)))
  · simp only [isName, decide_eq_true_eq] at hp
    exact .inr (.inr (.inr (.inr (.inl ⟨rfl, key 6 _ hp (by decide) (by decide) (by decide) (by decide) (by decide) (by decide) (by decide)⟩))))
  · simp only [isName, decide_eq_true_eq] at hp
    exact .inr (.inr (.inr (.inr (.inr ⟨rfl, key 4 _ hp (by decide) (by decide) (by decide) (by decide) (by decide) (by decide) (by decide)⟩))))
end Go.Proofs.Ytbigolappdlhcaa
