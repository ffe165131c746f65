/- Slices that came in, of whatever element type, opened as lists: of any program. -/
import Derived.Test.YtbhepdlcnfcfgaaRows
import Derived.WalkKit
import Derived.WalkSpells
import Derived.ProofKit
import Derived.Deep.Slices
import Derived.SizedLaws
namespace Go.Proofs.Ytbhepdlcnfcfgaa
set_option linter.unusedSimpArgs false
set_option linter.unusedVariables false
open Go.RowKit Go.Deep Go.ChangeShapes Go.WideShapes

/-- v is a slice of n elements of sz cells each; its cells read as cs. -/
def Rd (w : World) (v : Value) (n sz : Nat) (cs : List Value) : Prop :=
  cs.length = n * sz ∧ ∃ ao cap, v = .slice ao n cap ∧ (0 < n → ∃ b off, ao = some ⟨b, off, none⟩ ∧ b < w.heap.size ∧ ∀ j u, cs[j]? = some u → w.cell? ⟨b, off + j, none⟩ = some u)

theorem Rd.same {w w' : World} {v : Value} {n sz : Nat} {cs : List Value} (h : Rd w v n sz cs) {B : Nat} (hb : Below B w w') (hB : w.heap.size ≤ B) : Rd w' v n sz cs := by
  obtain ⟨h1, ao, cap, rfl, h2⟩ := h
  refine ⟨h1, ao, cap, rfl, fun hn => ?_⟩
  obtain ⟨b, off, rfl, hl, hc⟩ := h2 hn
  exact ⟨b, off, rfl, Nat.lt_of_lt_of_le hl hb.size, fun j u hu => (hb.cell (p := ⟨b, off + j, none⟩) (Nat.lt_of_lt_of_le hl hB)).trans (hc j u hu)⟩

theorem flat_get {α : Type} {f : α → List Value} {sz : Nat} (hsz : ∀ a, (f a).length = sz) : ∀ (l : List α) (i j : Nat) (hi : i < l.length), j < sz → (l.flatMap f)[i * sz + j]? = (f l[i])[j]? := by
  intro l
  induction l with
  | nil => intro i j hi; simp at hi
  | cons a r ih =>
    intro i j hi hj
    rw [List.flatMap_cons]
    cases i with
    | zero => rw [Nat.zero_mul, Nat.zero_add, List.getElem?_append_left (by rw [hsz]; exact hj)]; rfl
    | succ i =>
      rw [List.getElem?_append_right (by rw [hsz]; rw [Nat.succ_mul]; omega), hsz, show (i + 1) * sz + j - sz = i * sz + j by rw [Nat.succ_mul]; omega]
      exact ih i j (by simpa using hi) hj

theorem flat_length {α : Type} {f : α → List Value} {sz : Nat} (hsz : ∀ a, (f a).length = sz) (l : List α) : (l.flatMap f).length = l.length * sz := by
  induction l with
  | nil => simp
  | cons a r ih => rw [List.flatMap_cons, List.length_append, ih, hsz, List.length_cons, Nat.succ_mul]; omega

section
variable {H : Type} {enc : TypeId × Value → H} {P : Program} {w : World} {base : Nat} {spare : Nat → Bool} {held : Bool}

theorem rd_of_trod {α : Type} [Inhabited α] {t e : TypeId} {v : Value} {d : DataW H} {p : List MemPlace} {sz : Nat} (ht : P.underlying t = some (.slice e)) (hc : P.cellsOf e = sz) (hpos : 0 < sz)
    (cel : α → List Value) (dat : α → DataW H) (ok : α → Prop) (hsz : ∀ a, (cel a).length = sz)
    (hel : ∀ n cs x, DataW.trod enc P w base spare held n e cs = some x → ∃ a, cs = cel a ∧ x.1 = dat a ∧ ok a)
    (hv : ∃ a0 len cap, v = .slice a0 len cap) (h : DataW.Trod enc P w base spare held t v d p) :
    ∃ (l : List α), Rd w v l.length sz (l.flatMap cel) ∧ (∀ a ∈ l, ok a) ∧ ((d = .nil ∧ l = []) ∨ ∃ sp, d = .slice (l.map dat) sp) := by
  obtain ⟨a0, len0, cap0, rfl⟩ := hv
  obtain ⟨fuel, hf⟩ := h
  rcases open_slice ht hf with ⟨hcs, hx⟩ | ⟨a, len, cap, m, n, D, Pl, hcs, hb, hl, hm, hmm, hx, hall⟩
  · simp [Value.cells] at hcs
    obtain ⟨rfl, rfl, rfl⟩ := hcs
    simp only [Prod.mk.injEq] at hx
    exact ⟨[], ⟨by simp, none, 0, rfl, fun h => by simp at h⟩, by simp, .inl ⟨hx.1, rfl⟩⟩
  · simp [Value.cells] at hcs
    obtain ⟨rfl, rfl, rfl⟩ := hcs
    simp only [Prod.mk.injEq] at hx
    have hlm : len0 ≤ m := by rw [hmm]; split <;> omega
    obtain ⟨g, hg⟩ := choose_lt (n := len0) (p := fun i x => w.cells? base (a.add (i * P.cellsOf e)) (P.cellsOf e) = some (cel x) ∧ D i = dat x ∧ ok x) (fun i hi => by
      obtain ⟨cs', h1, h2⟩ := hall i (by omega)
      obtain ⟨x, rfl, hx', hok⟩ := hel _ _ _ h2
      exact ⟨x, h1, hx', hok⟩)
    refine ⟨(List.range len0).map g, ?_, ?_, .inr ⟨_, by rw [hx.1, List.map_map]; congr 1; exact List.map_congr_left fun i hi => (hg i (List.mem_range.1 hi)).2.1⟩⟩
    · have hlen : ((List.range len0).map g).length = len0 := by simp
      refine ⟨flat_length hsz _, some a, cap0, by rw [hlen], fun hn => ?_⟩
      rw [hlen] at hn
      obtain ⟨hc1, _, _⟩ := hg 0 hn
      obtain ⟨hbb, hl1, hcell⟩ := World.cells?_some hc1
      have h00 := hcell 0 (by omega)
      rw [List.getElem?_eq_getElem (by rw [hsz]; omega)] at h00
      have hspot : a.spot = none := by
        have := World.cell?_spot h00
        simpa [Addr.add] using this
      obtain ⟨b, off, spot⟩ := a
      simp only at hspot
      subst hspot
      have hadd : ∀ o k, (⟨b, o, none⟩ : Addr).add k = ⟨b, o + k, none⟩ := fun o k => by unfold Addr.add; split <;> simp_all
      refine ⟨b, off, rfl, ?_, fun j u hu => ?_⟩
      · rw [hadd, hadd] at h00
        exact World.block_lt_of_cell? w _ h00
      · have hjl : j < len0 * sz := by
          have := (List.getElem?_eq_some_iff.1 hu).1
          rwa [flat_length hsz, hlen] at this
        have hi : j / sz < len0 := Nat.div_lt_of_lt_mul (by rw [Nat.mul_comm]; exact hjl)
        have hr : j % sz < sz := Nat.mod_lt _ hpos
        have hj : j = j / sz * sz + j % sz := by rw [Nat.mul_comm]; exact (Nat.div_add_mod j sz).symm
        rw [hj, flat_get hsz _ _ _ (by rw [hlen]; exact hi) hr] at hu
        obtain ⟨hc2, _, _⟩ := hg (j / sz) hi
        obtain ⟨_, _, hcell2⟩ := World.cells?_some hc2
        have h2 := hcell2 (j % sz) (by omega)
        rw [hadd, hadd] at h2
        rw [hc] at h2
        rw [hj, ← Nat.add_assoc, h2, ← hu]
        simp
    · intro x hx'
      simp only [List.mem_map, List.mem_range] at hx'
      obtain ⟨i, hi, rfl⟩ := hx'
      exact (hg i hi).2.2
end
end Go.Proofs.Ytbhepdlcnfcfgaa
