/- The state at the head of InputAll's loop, and a step of it. -/
import Derived.Test.YtlckloeeimilhaaJ
namespace Go.Proofs.Ytlckloeeimilhaa
set_option linter.unusedSimpArgs false
set_option linter.unusedVariables false
open Go.RowKit

structure LS (C : Nat) (ts : List ByteArray) (sep : Bool) (x : IS) (done rest : List Item) (p : Option (Nat × Nat)) : Prop where
  good : Good C ts x
  sp : x.sep = sep
  all : items 0 ts = done ++ rest
  tak : x.taken = done.length
  ch : Ch p rest
  now : (done = [] ∧ p = none) ∨ (done ≠ [] ∧ ∃ k m : Nat, p = some (k, m) ∧ x.ci = (k : Int) ∧ x.cn = (m : Int) ∧ ts[k]? = some x.nowd)
  fin : rest = [] → x.has = false ∧ x.asked = ts.length
  nxt : ∀ l k m R, rest = (l, k, m) :: R → x.has = true ∧ x.nt = l.1 ∧ x.nwh = l.2 ∧ x.ni = (k : Int) ∧ x.nn = (m : Int) ∧ x.asked = k + 1 ∧ ts[k]? = some x.data ∧ ahead ts x = R ∧ x.counted = m

theorem LS.start (C : Nat) (ts : List ByteArray) (hC : ∀ t ∈ ts, t.size ≤ C) (sep : Bool) : LS C ts sep (look0 (told ts) sep) [] (items 0 ts) none := by
  have hg : Good C ts (is0 ts.length sep) := ⟨rfl, Nat.zero_le _, rfl, rfl, fun h => absurd rfl h, Nat.zero_le _⟩
  have h := look_law C ts hC _ (is0 ts.length sep) rfl hg rfl
  have hs := lookL_same (told ts) (is0 ts.length sep)
  have he : look0 (told ts) sep = lookL ((told ts).drop (is0 ts.length sep).asked) (is0 ts.length sep) := by
    unfold look0
    rw [show (told ts).length = ts.length by simp]
    rfl
  have ha : ahead ts (is0 ts.length sep) = items 0 ts := rfl
  rw [he]
  rw [ha] at h
  obtain ⟨h1, h2, h3⟩ := h
  have hdr : (told ts).drop (is0 ts.length sep).asked = told ts := rfl
  rw [hdr] at *
  refine ⟨h1, hs.2.2.2, rfl, hs.1, (ch_items ts 0).1, .inl ⟨rfl, rfl⟩, fun e => ⟨(h2 e).1, (h2 e).2.1⟩, h3⟩

theorem LS.step {C : Nat} {ts : List ByteArray} (hC : ∀ t ∈ ts, t.size ≤ C) {sep : Bool} {x : IS} {done R : List Item} {l : Ln} {k m : Nat} {p : Option (Nat × Nat)} (h : LS C ts sep x done ((l, k, m) :: R) p) :
    (looked (told ts) x).err = 0 ∧ LS C ts sep (took (told ts) x) (done ++ [(l, k, m)]) R (some (k, m)) := by
  obtain ⟨n1, n2, n3, n4, n5, n6, n7, n8⟩ := h.nxt l k m R rfl
  have hg : Good C ts { x with has := false } := ⟨h.good.n, h.good.ask, h.good.err, h.good.pas, h.good.left, h.good.cnt⟩
  have hL := look_law C ts hC _ { x with has := false } rfl hg rfl
  have ha : ahead ts { x with has := false } = R := n8.1
  rw [ha] at hL
  obtain ⟨h1, h2, h3⟩ := hL
  have hsame := lookL_same ((told ts).drop x.asked) { x with has := false }
  have hlk : looked (told ts) x = lookL ((told ts).drop x.asked) { x with has := false } := rfl
  have hch := h.ch
  have hch2 : Ch (some (k, m)) R := by
    cases p with
    | none => exact hch.2
    | some q => obtain ⟨k0, m0⟩ := q; exact hch.2
  refine ⟨h1.err, ⟨h1.n, h1.ask, h1.err, h1.pas, h1.left, h1.cnt⟩, ?_, ?_, ?_, hch2, .inr ⟨by simp, k, m, rfl, n4, n5, n7⟩, fun e => ⟨(h2 e).1, (h2 e).2.1⟩, h3⟩
  · show (looked (told ts) x).sep = sep
    rw [hlk, hsame.2.2.2]; exact h.sp
  · rw [h.all]; simp
  · show x.taken + 1 = _
    rw [h.tak]; simp

end Go.Proofs.Ytlckloeeimilhaa
