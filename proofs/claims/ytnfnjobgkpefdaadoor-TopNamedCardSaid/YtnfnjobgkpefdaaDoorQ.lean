/- text; Print. -/
import Derived.Test.YtnfnjobgkpefdaaDoorP
namespace Go.Proofs.YtnfnjobgkpefdaaDoor
set_option linter.unusedSimpArgs false
set_option linter.unusedVariables false
open Go.RowKit

abbrev bsL (l : List ByteArray) : List Bs := l.map (fun s => s.data.toList)
theorem textL_join : ∀ p : List Bs, p ≠ [] → textL p = 47 :: Lib.join p [47] := by
  intro p
  induction p with
  | nil => intro h; exact absurd rfl h
  | cons a p ih =>
    intro _
    cases p with
    | nil => simp [textL, Lib.join]
    | cons b p => rw [textL, ih (by simp)]; simp [Lib.join]
theorem sumL_cons (a : ByteArray) (l : List ByteArray) : sumL (a :: l) = 1 + a.size + sumL l := by simp [sumL]
theorem textL_len : ∀ l : List ByteArray, (textL (bsL l)).length = max (sumL l) 1 := by
  intro l
  induction l with
  | nil => rfl
  | cons a l ih =>
    cases l with
    | nil => simp [textL, sumL, bsL]; omega
    | cons b l =>
      have ih' : (textL (b.data.toList :: bsL l)).length = max (sumL (b :: l)) 1 := ih
      show (textL (a.data.toList :: b.data.toList :: bsL l)).length = _
      rw [textL, List.length_cons, List.length_append, ih', sumL_cons a]
      have h1 : sumL (b :: l) = 1 + b.size + sumL l := sumL_cons b l
      have h2 : a.data.toList.length = a.size := by simp
      omega

set_option maxRecDepth 8000 in
set_option maxHeartbeats 3200000 in
theorem text_any (v : Value) (l : List ByteArray) (w : World) (ht : Tx w v l) (hsz : sumL l ≤ 16777216) :
    Calls Tryd.prog 12 #[v] w fun e w' => e = .returned (.string ⟨(textL (bsL l)).toArray⟩) ∧ Below w.heap.size w w' := by
  obtain ⟨ao, cap, rfl, hcap, hT⟩ := ht
  have hlen := sumL_len l
  cases l with
  | nil =>
    clear hT
    go_enter Tryd.func12, Tryd.ntmps12
    go_wp2_with fail
    go_ret
    exact ⟨rfl, Below.refl _ _⟩
  | cons a l =>
    obtain ⟨b, off, rfl, hbl, hc⟩ := hT (by simp)
    obtain ⟨x, hx⟩ : ∃ x, a :: l = x := ⟨_, rfl⟩
    have hne : bsL x ≠ [] := by rw [← hx]; simp [bsL]
    have hpos : 0 < x.length := by rw [← hx]; simp
    rw [hx] at hsz hlen hcap hc ⊢
    have hj := textL_join (bsL x) hne
    have htl := textL_len x
    rw [hj, List.length_cons] at htl
    obtain ⟨J, hJJ⟩ : ∃ J, Lib.join (bsL x) [47] = J := ⟨_, rfl⟩
    have hJ1 : ¬ 9223372036854775807 < 1 + J.length := by rw [← hJJ]; omega
    have HJ0 := (Tryd.strings_Join b off cap x ⟨#[47]⟩ w (fun j y hy => by
      obtain ⟨hjl, rfl⟩ := List.getElem?_eq_some_iff.1 hy
      exact hc j hjl) hbl (by omega) hcap (by show (Lib.join (bsL x) [47]).length ≤ _; omega))
    have HJ : Hid (Calls Tryd.prog 26 #[.slice (some ⟨b, off, none⟩) x.length cap, .string ⟨#[47]⟩] w fun e w' => e = .returned (.string ⟨J.toArray⟩) ∧ Below w.heap.size w w') := by
      rw [← hJJ]; exact HJ0
    rw [hJJ] at hj
    have HE := Lib.hid hj
    have n0 : ¬ (x.length : Int) = 0 := by omega
    have e0 : ((x.length : Int) == 0) = false := by simpa using n0
    have n1 : ¬ x.length = 0 := by omega
    have n2 : ¬ x = [] := fun e => by rw [e] at hpos; simp at hpos
    clear hT hc htl hj hx hne HJ0 hJJ
    go_enter Tryd.func12, Tryd.ntmps12
    go_wp2_with fail
    refine HJ.out.mono ?_
    rintro e w' ⟨rfl, hb⟩
    have HB := Lib.hid hb
    clear hb
    go_wp2_with fail
    go_ret
    refine ⟨?_, HB.out⟩
    rw [HE.out]
    show Ending.returned (.string _) = Ending.returned (.string _)
    congr 2

/-- What Print answers: the text, and the code. -/
def prS (l : List ByteArray) : ByteArray := if rightL l = true then ⟨(textL (bsL l)).toArray⟩ else ⟨#[]⟩
def prN (l : List ByteArray) : Int := if rightL l = true then 0 else 20
theorem prS_yes {l : List ByteArray} (h : rightL l = true) : prS l = ⟨(textL (bsL l)).toArray⟩ := by unfold prS; rw [if_pos h]
theorem prS_no {l : List ByteArray} (h : rightL l = false) : prS l = ⟨#[]⟩ := by unfold prS; rw [if_neg (by simp [h])]
theorem prN_yes {l : List ByteArray} (h : rightL l = true) : prN l = 0 := by unfold prN; rw [if_pos h]
theorem prN_no {l : List ByteArray} (h : rightL l = false) : prN l = 20 := by unfold prN; rw [if_neg (by simp [h])]

set_option maxRecDepth 8000 in
set_option maxHeartbeats 3200000 in
theorem Print_any (v : Value) (l : List ByteArray) (w : World) (ht : Tx w v l) (hlen : l.length ≤ 17592186044416) (hx : ∀ s ∈ l, s.size ≤ 4611686018427387904) :
    Calls Tryd.prog 5 #[v] w fun e w' => e = .returned (.tuple #[.string (prS l), .int .i64 (prN l)]) ∧ Below w.heap.size w w' := by
  have HR := Lib.hid (Right_all v l w ht hlen hx)
  have HT := Lib.hid (fun W (hb : Below w.heap.size w W) (hr : rightL l = true) => text_any v l W (ht.to hb) (by
    have h1 := (Bool.and_eq_true_iff.1 (show (decide (max (sumL l) 1 ≤ 1024) && namesL l) = true from hr)).1
    have h2 := of_decide_eq_true h1
    omega))
  obtain ⟨q, hq⟩ : ∃ q, rightL l = q := ⟨_, rfl⟩
  rw [hq] at HR
  have HQ := Lib.hid hq
  clear ht hq hx
  go_enter Tryd.func5, Tryd.ntmps5
  go_wp2_with fail
  refine HR.out.mono ?_
  rintro e w' ⟨rfl, hb⟩
  have HB := Lib.hid hb
  clear hb
  cases q
  · go_wp2_with fail
    go_ret2
    exact ⟨by rw [prS_no HQ.out, prN_no HQ.out]; rfl, HB.out⟩
  · go_wp2_with fail
    refine (HT.out _ HB.out HQ.out).mono ?_
    rintro e w2 ⟨rfl, hb⟩
    have HB2 := Lib.hid (bl_to HB.out hb)
    clear hb
    go_wp2_with fail
    go_ret2
    exact ⟨by rw [prS_yes HQ.out, prN_yes HQ.out]; rfl, HB2.out⟩
end Go.Proofs.YtnfnjobgkpefdaaDoor
