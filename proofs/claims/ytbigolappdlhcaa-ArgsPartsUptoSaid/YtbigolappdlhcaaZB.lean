/- Read's contract in short words. -/
import Derived.Test.YtbigolappdlhcaaZA
namespace Go.Proofs.Ytbigolappdlhcaa
set_option linter.unusedSimpArgs false
set_option linter.unusedVariables false
open Go.RowKit

theorem readW_len (l : List ByteArray) : ∀ (n i : Nat) (a : Av), l.length - i ≤ n → i ≤ l.length → a.scr.length ≤ i → ∀ j b, readW l i a = .inr (j, b) → b.scr.length ≤ l.length := by
  intro n
  induction n with
  | zero =>
    intro i a hn hi ha j b hr
    rw [readW, dif_neg (by omega)] at hr
    simp only [Sum.inr.injEq, Prod.mk.injEq] at hr
    obtain ⟨-, rfl⟩ := hr
    omega
  | succ n ih =>
    intro i a hn hi ha j b hr
    rw [readW] at hr
    by_cases hlt : i < l.length
    · rw [dif_pos hlt] at hr
      split at hr
      · simp only [Sum.inr.injEq, Prod.mk.injEq] at hr
        obtain ⟨-, rfl⟩ := hr
        omega
      split at hr
      · simp only [Sum.inr.injEq, Prod.mk.injEq] at hr
        obtain ⟨-, rfl⟩ := hr
        omega
      split at hr
      · split at hr
        · cases hr
        · rename_i a' ha'
          have := longL_scr ha'
          exact ih _ _ (by omega) (by omega) (by omega) _ _ hr
      split at hr
      · cases hr
      split at hr
      · cases hr
      rename_i hneg
      have h4 := shortF_scr (tail1 l[i]) (l.drop (i + 1)) (tail1 l[i]).size a
      have h5 : ∀ x : Int, (x ≤ 0 ∨ (x = 1 ∧ l.drop (i + 1) ≠ [])) → i + 1 + x.toNat ≤ l.length := by
        intro x hx
        rcases hx with hx | ⟨rfl, hne⟩
        · omega
        · have h3 : (l.drop (i + 1)).length ≠ 0 := fun e => hne (List.length_eq_zero_iff.1 e)
          rw [List.length_drop] at h3
          simp; omega
      exact ih _ _ (by omega) (h5 _ h4.2.2.1) (by have := h4.1; omega) _ _ hr
    · rw [dif_neg hlt] at hr
      simp only [Sum.inr.injEq, Prod.mk.injEq] at hr
      obtain ⟨-, rfl⟩ := hr
      omega
theorem read_len {l : List ByteArray} {a : Av} {c : Int} {k : Nat} (h : readL l = (some a, c, k)) : l.length ≤ 65536 ∧ a.scr.length ≤ 65537 ∧ a.nam.length ≤ 65536 := by
  unfold readL at h
  split at h
  · cases h
  · rename_i hle
    cases hR : readW l 0 zeroAv with
    | inl j => rw [hR] at h; cases h
    | inr x =>
      obtain ⟨j, b⟩ := x
      have hg := readW_len l l.length 0 zeroAv (by omega) (by omega) (by simp [zeroAv]) j b hR
      rw [hR] at h
      have h' : (if b.scr = [] then (match l.drop j with | [] => (none, 260, l.length) | t :: r => (some { b with scr := [(false, t)], nam := r }, 0, 0)) else (some { b with nam := l.drop j }, (0 : Int), (0 : Nat))) = (some a, c, k) := h
      have hd := List.length_drop (i := j) (l := l)
      by_cases hs : b.scr = []
      · rw [if_pos hs] at h'
        cases hdr : l.drop j with
        | nil => rw [hdr] at h'; simp at h'
        | cons t r =>
          rw [hdr] at h' hd
          simp only [Prod.mk.injEq, Option.some.injEq] at h'
          rw [← h'.1]
          simp at hd ⊢
          omega
      · rw [if_neg hs] at h'
        simp only [Prod.mk.injEq, Option.some.injEq] at h'
        rw [← h'.1]
        simp
        omega

/-- A command line of one's own, with a code and a place. -/
def RP (w : World) (a : Av) (c : Int) (k : Nat) (e : Ending) (w' : World) : Prop :=
  ∃ so sc no nc, e = .returned (.tuple #[a.val (.slice so a.scr.length sc) (.slice no a.nam.length nc), .int .i64 c, .int .i64 k]) ∧
    w'.ownsRow w.heap.size 45 2 (.slice so a.scr.length sc) a.scr.length (a.scr.flatMap pcells) ∧ w'.ownsRow w.heap.size 9 1 (.slice no a.nam.length nc) a.nam.length (a.nam.map Value.string) ∧ Below w.heap.size w w'
theorem RP.of {w w' : World} {l : List ByteArray} {a : Av} {c : Int} {k : Nat} {e : Ending} {o : Option Av} (hR : readL l = (o, c, k)) (ha : o.getD zeroAv = a) (h : ReadPost w l e w') : RP w a c k e w' := by
  obtain ⟨sv, nv, he, h1, h2, h3⟩ := h
  rw [hR] at he h1 h2
  simp only [ha] at he h1 h2
  obtain ⟨so, sc, rfl⟩ := row_slice h1
  obtain ⟨no, nc, rfl⟩ := row_slice h2
  exact ⟨so, sc, no, nc, he, h1, h2, h3⟩
theorem read_is {v : Value} {l : List ByteArray} {w : World} {a : Av} {c : Int} {k : Nat} {o : Option Av} (hR : readL l = (o, c, k)) (ha : o.getD zeroAv = a) (h : Tz w v l) (hsz : ∀ s ∈ l, s.size ≤ 140737488355328) : Calls Try.prog 21 #[v] w (RP w a c k) :=
  (read_any v l w h (fun s hs => by have := hsz s hs; omega)).mono fun _ _ hp => RP.of hR ha hp
theorem getD_len {l : List ByteArray} {a : Av} {c : Int} {k : Nat} {o : Option Av} (hR : readL l = (o, c, k)) (ha : o.getD zeroAv = a) : a.scr.length ≤ 65537 ∧ a.nam.length ≤ 65536 := by
  cases o with
  | none => subst ha; simp [zeroAv]
  | some b => subst ha; exact (read_len hR).2
end Go.Proofs.Ytbigolappdlhcaa
