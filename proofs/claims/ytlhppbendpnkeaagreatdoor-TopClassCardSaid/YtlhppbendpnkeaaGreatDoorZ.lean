/- sets: an item at its text; Bracket. -/
import Derived.Test.YtlhppbendpnkeaaGreatDoorMD
import Derived.Test.YtlhppbendpnkeaaGreatDoorY
import Derived.Deep.MidRow
namespace Go.Proofs.YtlhppbendpnkeaaGreatDoor
set_option linter.unusedSimpArgs false
set_option linter.unusedVariables false
open Go.RowKit

theorem item_any (R : Nat) (s : ByteArray) (i c : Nat) (t : Bs) (w : World) (hr : Re w R s i) (hsz : s.size ≤ 65536) (hc : c < 256) (hd : s.data.toList.drop i = elemB c ++ t) :
    Calls Tryz.prog 90 #[.pointer (some ⟨R, 0, none⟩)] w fun e w' => e = .returned (.agg (itC (oneF c) c true)) ∧ (Re w' R s (i + (elemB c).length) ∧ Ex R w w') := by
  have hl : 0 < (elemB c).length := by unfold elemB; split <;> simp
  have hsize : i + (elemB c).length + t.length = s.size := by
    rcases at_drop hd with h | ⟨_, h, _⟩
    · exact h
    · rw [h] at hl; simp at hl
  have hb := toNat_byte hc
  by_cases hs : specB c
  · have he : elemB c = [91, 46, UInt8.ofNat c, 46, 93] := by unfold elemB; rw [if_pos hs]
    rw [he] at hd hsize ⊢
    simp only [List.length_cons, List.length_nil, Nat.zero_add, Nat.reduceAdd] at hsize ⊢
    refine item_dot R s i c w hr hsz (by omega) hc ?_ ?_ ?_ ?_ ?_
    · exact at_get (j := 0) hd (by simp) (by omega)
    · exact at_get (j := 1) hd (by simp) (by omega)
    · rw [at_get (j := 2) hd (by simp) (by omega)]; exact hb
    · exact at_get (j := 3) hd (by simp) (by omega)
    · exact at_get (j := 4) hd (by simp) (by omega)
  · have he : elemB c = [UInt8.ofNat c] := by unfold elemB; rw [if_neg hs]
    rw [he] at hd hsize ⊢
    simp only [List.length_cons, List.length_nil, Nat.zero_add] at hsize ⊢
    unfold specB at hs
    refine item_plain R s i c w hr hsz (by omega) hc ?_ (by omega) (by omega)
    rw [show s[i]'(by omega) = s[i + 0]'(by omega) from rfl, at_get (j := 0) hd (by simp) (by omega)]; exact hb
/-- An element begins neither with ']' nor with '-' nor with '^'. -/
theorem elem_head (c : Nat) (hc : c < 256) : ∃ a r, elemB c = a :: r ∧ a ≠ 93 ∧ a ≠ 45 ∧ a ≠ 94 := by
  unfold elemB
  split
  · exact ⟨91, _, rfl, by decide, by decide, by decide⟩
  · rename_i h
    have hb := toNat_byte hc
    unfold specB at h
    refine ⟨_, _, rfl, ?_, ?_, ?_⟩ <;> (intro e; rw [e] at hb; revert hb; simp; omega)
/-- Of what stands behind an item's text: its first byte is no '-'. -/
theorem items_head (ps : List (Nat × Nat)) (h : ∀ p ∈ ps, p.1 ≤ p.2 ∧ p.2 < 256) (rest : Bs) : ∃ a r, ps.flatMap itT ++ 93 :: rest = a :: r ∧ a ≠ 45 ∧ a ≠ 94 ∧ (a = 93 → ps = []) := by
  cases ps with
  | nil => exact ⟨93, rest, rfl, by decide, by decide, fun _ => rfl⟩
  | cons p ps =>
    have hp := h p (List.mem_cons_self ..)
    obtain ⟨a, r, he, h1, h2, h3⟩ := elem_head p.1 (by omega)
    rw [List.flatMap_cons]
    by_cases e : p.1 = p.2
    · have ei : itT p = elemB p.1 := by unfold itT; rw [if_pos e]
      exact ⟨a, r ++ (ps.flatMap itT) ++ 93 :: rest, by rw [ei, he]; simp, h2, h3, fun e => absurd e h1⟩
    · have ei : itT p = elemB p.1 ++ 45 :: elemB p.2 := by unfold itT; rw [if_neg e]
      exact ⟨a, r ++ 45 :: elemB p.2 ++ (ps.flatMap itT) ++ 93 :: rest, by rw [ei, he]; simp, h2, h3, fun e => absurd e h1⟩
theorem get_head {s : ByteArray} {i : Nat} {a : UInt8} {r : Bs} (h : s.data.toList.drop i = a :: r) : ∃ hi : i < s.size, s[i] = a ∧ i + 1 + r.length = s.size := by
  have h1 : s.data.toList.drop i = [a] ++ r := h
  have hs : i + 1 + r.length = s.size := by
    rcases at_drop h1 with h | ⟨_, h, _⟩
    · simpa using h
    · cases h
  have hi : i < s.size := by omega
  exact ⟨hi, at_get (j := 0) h1 (by simp) (by omega), hs⟩
theorem drop_more {s : ByteArray} {i : Nat} {a b : Bs} (h : s.data.toList.drop i = a ++ b) : s.data.toList.drop (i + a.length) = b := by
  rw [← List.drop_drop, h, List.drop_left]
end Go.Proofs.YtlhppbendpnkeaaGreatDoor
