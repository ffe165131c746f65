/- Inputs that came in; InputTakes for whatever was given. -/
import Derived.Test.YtlckloeeimilhaaS
import Derived.Test.YtlckloeeimilhaaR
namespace Go.Proofs.Ytlckloeeimilhaa
set_option linter.unusedSimpArgs false
set_option linter.unusedVariables false
open Go.RowKit Go.Deep Go.ChangeShapes Go.WideShapes

def sumT : List Tl → Nat
  | [] => 0
  | d :: r => d.1.size + sumT r
theorem sumT_mem : ∀ (l : List Tl), ∀ d ∈ l, d.1.size ≤ sumT l := by
  intro l
  induction l with
  | nil => intro d h; simp at h
  | cons a r ih =>
    intro d h
    unfold sumT
    rcases List.mem_cons.1 h with rfl | h
    · omega
    · have := ih d h; omega
theorem sumT_told : ∀ (l : List Tl), sumT (toldL l) ≤ sumT l := by
  intro l
  induction l with
  | nil => exact Nat.le_refl _
  | cons a r ih =>
    have e : toldL (a :: r) = (if a.2 = 0 then a else (⟨#[]⟩, a.2)) :: toldL r := rfl
    rw [e, sumT, sumT]
    split
    · omega
    · show (⟨#[]⟩ : ByteArray).size + _ ≤ _
      have : (⟨#[]⟩ : ByteArray).size = 0 := rfl
      omega
theorem itemsE_le : ∀ (l : List Tl) (k : Nat), (itemsE k l).length ≤ sumT l := by
  intro l
  induction l with
  | nil => intro k; exact Nat.le_refl _
  | cons a r ih =>
    obtain ⟨d, e⟩ := a
    intro k
    have h1 := ih (k + 1)
    have hs := splitL_length d
    have hl := itemsOf_length k (splitL d) 0
    rw [itemsE, sumT]
    split
    · omega
    · split
      · rw [List.length_append]; show _ ≤ d.size + _; omega
      · exact Nat.zero_le _

theorem c32 : Try.prog.cellsOf 32 = 2 := by kernel_rfl
theorem c30 : Try.prog.cellsOf 30 = 1 := by kernel_rfl
def tlc (x : Tl) : List Value := [.string x.1, .int .i64 x.2]
theorem flat_tlc (l : List Tl) : l.flatMap tlc = tcells l := by
  induction l with
  | nil => rfl
  | cons a r ih => rw [List.flatMap_cons, ih]; rfl
def tlDat {H : Type} (x : Tl) : DataW H := .agg [.lit (.string x.1.data.toList), .lit (.int .i64 x.2)]
section
variable {H : Type} {enc : TypeId × Value → H} {w : World} {base : Nat} {spare : Nat → Bool} {held : Bool}
set_option maxRecDepth 8000 in
theorem tl_el (n : Nat) (cs : List Value) (x : DataW H × List MemPlace) (h : DataW.trod enc Try.prog w base spare held n 32 cs = some x) :
    ∃ a : Tl, cs = tlc a ∧ x.1 = tlDat a ∧ a.1.size ≤ maxLen := by
  obtain ⟨y0, y1, m, rfl, hl, h0, h1⟩ := trod_struct2 (f0 := _) (f1 := _) Try.underlying32 h
  rw [c32] at hl
  match cs, hl with
  | [v0, v1], _ =>
    simp only [c30, c9] at h0 h1
    obtain ⟨t, e0, rfl, wt⟩ := DataW.trod_string Try.underlying9 h0
    obtain ⟨k, e1, rfl, _⟩ := DataW.trod_int Try.underlying30 h1
    simp at e0 e1
    subst e0 e1
    exact ⟨(t, k), rfl, rfl, wt⟩
theorem bulk_tls (l : List Tl) : l.length + sumT l ≤ Rows.uptoBulkAll (l.map (tlDat (H := H))) := by
  induction l with
  | nil => exact Nat.le_refl _
  | cons a r ih =>
    have hb : a.1.size + 1 ≤ Rows.uptoBulk (tlDat (H := H) a) := by simp [tlDat, Rows.uptoBulk, Rows.uptoBulkAll]; try omega
    rw [List.map_cons, Rows.uptoBulkAll, sumT, List.length_cons]
    omega
theorem open_told {v : Value} {d : DataW H} {p : List MemPlace} {m : Reach} {bs : Nat} (hok : Value.okWide Try.prog w m bs 25 v) (h : DataW.Trod enc Try.prog w base spare held 25 v d p) (hb : Rows.uptoBulk d ≤ 1048576) :
    ∃ l : List Tl, Tv w v l ∧ l.length ≤ 1048576 ∧ sumT l ≤ 1048576 := by
  obtain ⟨a0, len, cap, rfl⟩ := okWide_slice Try.underlying25 hok
  have hfit : len ≤ cap := by
    obtain ⟨fuel, hf⟩ := h
    rcases open_slice Try.underlying25 hf with ⟨hcs, hx⟩ | ⟨a, len, cap, m, n, D, Pl, hcs, hb, hl, hm, hmm, hx, hall⟩
    · simp [Value.cells] at hcs
      obtain ⟨rfl, rfl, rfl⟩ := hcs
      exact Nat.le_refl _
    · simp [Value.cells] at hcs
      obtain ⟨rfl, rfl, rfl⟩ := hcs
      exact hl
  obtain ⟨l, hr, hall, hd⟩ := rd_of_trod (v := .slice a0 len cap) (d := d) (p := p) Try.underlying25 c32 (by omega) tlc tlDat (fun t => t.1.size ≤ maxLen) (fun _ => rfl) tl_el ⟨_, _, _, rfl⟩ h
  rw [flat_tlc] at hr
  refine ⟨l, ?_, ?_⟩
  · obtain ⟨_, ao, cap', e, h2⟩ := hr
    simp only [Value.slice.injEq] at e
    obtain ⟨rfl, rfl, rfl⟩ := e
    refine ⟨a0, cap, rfl, hfit, fun hn => ?_⟩
    obtain ⟨b, off, rfl, hl, hc⟩ := h2 hn
    exact ⟨b, off, rfl, hl, fun i hi => ⟨hc (i * 2) _ (tcells_get l i hi).1, hc (i * 2 + 1) _ (tcells_get l i hi).2⟩⟩
  · rcases hd with ⟨_, rfl⟩ | ⟨sp, rfl⟩
    · simp [sumT]
    · have hk := bulk_tls (H := H) l
      simp only [Rows.uptoBulk] at hb
      omega
end
theorem takes_any (v : Value) (l : List Tl) (sep : Bool) (times : Int) (w : World) (h : Tv w v l) (hl : l.length ≤ 1048576) (hs : sumT l ≤ 1048576) :
    Calls Try.prog 4 #[v, .bool sep, .int .i64 times] w fun e w' => e = .returned (.bool true) ∧ Below w.heap.size w w' := by
  by_cases hn : l.length ≤ 1024
  · have h1 := sumT_told l
    exact takes_core v l sep times w h hn (fun d hd => by have := sumT_mem _ d hd; omega) (by have := itemsE_le (toldL l) 0; omega)
  · exact takes_long v l sep times w h (by omega) (by omega)
end Go.Proofs.Ytlckloeeimilhaa
