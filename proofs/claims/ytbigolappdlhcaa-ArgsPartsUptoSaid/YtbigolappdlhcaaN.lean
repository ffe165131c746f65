/- A command line that came in. -/
import Derived.Test.YtbigolappdlhcaaM
import Derived.Deep.Strs
import Derived.SizedLaws
namespace Go.Proofs.Ytbigolappdlhcaa
set_option linter.unusedSimpArgs false
set_option linter.unusedVariables false
open Go.RowKit Go.Deep Go.ChangeShapes Go.WideShapes

theorem c4 : Try.prog.cellsOf 4 = 1 := by kernel_rfl
theorem c9 : Try.prog.cellsOf 9 = 1 := by kernel_rfl
theorem c23 : Try.prog.cellsOf 23 = 5 := by kernel_rfl
theorem c24 : Try.prog.cellsOf 24 = 1 := by kernel_rfl
theorem c25 : Try.prog.cellsOf 25 = 1 := by kernel_rfl
theorem c27 : Try.prog.cellsOf 27 = 7 := by kernel_rfl
theorem c45 : Try.prog.cellsOf 45 = 2 := by kernel_rfl
theorem b45 : Try.prog.bytesOf 45 = 24 := by kernel_rfl
theorem b9 : Try.prog.bytesOf 9 = 16 := by kernel_rfl

section
variable {H : Type} {enc : TypeId × Value → H} {w : World} {base : Nat} {spare : Nat → Bool} {held : Bool}

def strDat {H : Type} (t : ByteArray) : DataW H := .lit (.string t.data.toList)
def pcDat {H : Type} (x : Pc) : DataW H := .agg [.lit (.bool x.1), .lit (.string x.2.data.toList)]

theorem str_el (n : Nat) (cs : List Value) (x : DataW H × List MemPlace) (h : DataW.trod enc Try.prog w base spare held n 9 cs = some x) :
    ∃ t : ByteArray, cs = [Value.string t] ∧ x.1 = strDat t ∧ t.size ≤ maxLen := by
  obtain ⟨t, e, rfl, wt⟩ := DataW.trod_string Try.underlying9 h
  exact ⟨t, e, rfl, wt⟩
set_option maxRecDepth 8000 in
theorem pc_el (n : Nat) (cs : List Value) (x : DataW H × List MemPlace) (h : DataW.trod enc Try.prog w base spare held n 45 cs = some x) :
    ∃ a : Pc, cs = pcells a ∧ x.1 = pcDat a ∧ a.2.size ≤ maxLen := by
  obtain ⟨y0, y1, m, rfl, hl, h0, h1⟩ := trod_struct2 (f0 := _) (f1 := _) Try.underlying45 h
  rw [c45] at hl
  match cs, hl with
  | [v0, v1], _ =>
    simp only [c4, c9] at h0 h1
    obtain ⟨k, e0, rfl⟩ := DataW.trod_bool Try.underlying4 h0
    obtain ⟨t, e1, rfl, wt⟩ := DataW.trod_string Try.underlying9 h1
    simp at e0 e1
    subst e0 e1
    exact ⟨(k, t), rfl, rfl, wt⟩
theorem flat_strs (l : List ByteArray) : l.flatMap (fun t => [Value.string t]) = l.map Value.string := by
  induction l with
  | nil => rfl
  | cons a r ih => rw [List.flatMap_cons, ih]; rfl

/-- The value of a slice as it is trodden. -/
theorem slice_nz {n : Nat} {t e : TypeId} {v : Value} {x : DataW H × List MemPlace} (ht : Try.prog.underlying t = some (.slice e)) (h : DataW.trod enc Try.prog w base spare held n t [v] = some x) : (∃ a0 len cap, v = .slice a0 len cap) ∧ Nz v := by
  rcases open_slice ht h with ⟨hcs, hx⟩ | ⟨a, len, cap, m, n, D, Pl, hcs, hb, hl, hm, hmm, hx, hall⟩
  · simp at hcs
    subst hcs
    exact ⟨⟨_, _, _, rfl⟩, fun n cap h => by simp only [Value.slice.injEq] at h; exact h.2.2.symm⟩
  · simp at hcs
    subst hcs
    exact ⟨⟨_, _, _, rfl⟩, fun n cap h => by simp at h⟩

theorem open_names {n : Nat} {v : Value} {x : DataW H × List MemPlace} (h : DataW.trod enc Try.prog w base spare held n 25 [v] = some x) (hsz : ∀ n ∈ x.1.weights Try.prog 25, n ≤ reachBytes) :
    ∃ l : List ByteArray, Rd w v l.length 1 (l.map Value.string) ∧ Nz v ∧ l.length * 16 ≤ 140737488355000 := by
  obtain ⟨⟨a0, len, cap, rfl⟩, hz⟩ := slice_nz Try.underlying25 h
  obtain ⟨l, hr, hall, hd⟩ := rd_of_trod (v := .slice a0 len cap) (d := x.1) (p := x.2) Try.underlying25 c9 (by omega) (fun t => [Value.string t]) strDat (fun t => t.size ≤ maxLen) (fun _ => rfl) str_el ⟨_, _, _, rfl⟩ ⟨n, h⟩
  rw [flat_strs] at hr
  refine ⟨l, hr, hz, ?_⟩
  rcases hd with ⟨_, rfl⟩ | ⟨sp, hd⟩
  · simp
  · rw [hd] at hsz
    have := hsz (((l.map (strDat (H := H))).length + sp.length) * Try.prog.bytesOf 9) (by simp [DataW.weights, Try.underlying25])
    rw [b9, List.length_map] at this
    have h2 : reachBytes = 140737488351232 := rfl
    rw [h2] at this
    omega
theorem open_pieces {n : Nat} {v : Value} {x : DataW H × List MemPlace} (h : DataW.trod enc Try.prog w base spare held n 24 [v] = some x) (hsz : ∀ n ∈ x.1.weights Try.prog 24, n ≤ reachBytes) :
    ∃ l : List Pc, Rd w v l.length 2 (l.flatMap pcells) ∧ Nz v ∧ l.length * 24 ≤ 140737488355000 := by
  obtain ⟨⟨a0, len, cap, rfl⟩, hz⟩ := slice_nz Try.underlying24 h
  obtain ⟨l, hr, hall, hd⟩ := rd_of_trod (v := .slice a0 len cap) (d := x.1) (p := x.2) Try.underlying24 c45 (by omega) pcells pcDat (fun t => t.2.size ≤ maxLen) (fun _ => rfl) pc_el ⟨_, _, _, rfl⟩ ⟨n, h⟩
  refine ⟨l, hr, hz, ?_⟩
  rcases hd with ⟨_, rfl⟩ | ⟨sp, hd⟩
  · simp
  · rw [hd] at hsz
    have := hsz (((l.map (pcDat (H := H))).length + sp.length) * Try.prog.bytesOf 45) (by simp [DataW.weights, Try.underlying24])
    rw [b45, List.length_map] at this
    have h2 : reachBytes = 140737488351232 := rfl
    rw [h2] at this
    omega

set_option maxRecDepth 100000 in
theorem open_argv {v : Value} {d : DataW H} {p : List MemPlace} {m : Reach} {bs : Nat} (hok : Value.okWide Try.prog w m bs 27 v) (h : DataW.Trod enc Try.prog w base spare held 27 v d p) (hsz : ∀ n ∈ d.weights Try.prog 27, n ≤ reachBytes) :
    ∃ a : Av, Arg w v a := by
  obtain ⟨cs, rfl, hl⟩ := okWide_struct Try.underlying27 hok
  obtain ⟨l⟩ := cs
  match l, hl.trans c27 with
  | [c0, c1, c2, c3, c4', c5, c6], _ =>
    obtain ⟨fuel, hf⟩ := h
    obtain ⟨xs, n, _, hx, _, hlen, hg⟩ := DataW.trod_struct Try.underlying27 hf
    match xs, hlen with
    | [x0, x1, x2], _ =>
      have h0 : DataW.trod enc Try.prog w base spare held n 23 (([c0, c1, c2, c3, c4', c5, c6].drop 0).take (Try.prog.cellsOf 23)) = some x0 := hg 0 _ rfl
      have h1 : DataW.trod enc Try.prog w base spare held n 24 (([c0, c1, c2, c3, c4', c5, c6].drop 5).take (Try.prog.cellsOf 24)) = some x1 := hg 1 _ rfl
      have h2 : DataW.trod enc Try.prog w base spare held n 25 (([c0, c1, c2, c3, c4', c5, c6].drop 6).take (Try.prog.cellsOf 25)) = some x2 := hg 2 _ rfl
      simp only [c23, c24, c25] at h0 h1 h2
      simp only [Prod.mk.injEq] at hx
      obtain ⟨ys, k, _, hy, _, hylen, hyg⟩ := DataW.trod_struct Try.underlying23 h0
      match ys, hylen with
      | [y0, y1, y2, y3, y4], _ =>
        have g0 : DataW.trod enc Try.prog w base spare held k 4 (([c0, c1, c2, c3, c4'].drop 0).take (Try.prog.cellsOf 4)) = some y0 := hyg 0 _ rfl
        have g1 : DataW.trod enc Try.prog w base spare held k 4 (([c0, c1, c2, c3, c4'].drop 1).take (Try.prog.cellsOf 4)) = some y1 := hyg 1 _ rfl
        have g2 : DataW.trod enc Try.prog w base spare held k 4 (([c0, c1, c2, c3, c4'].drop 2).take (Try.prog.cellsOf 4)) = some y2 := hyg 2 _ rfl
        have g3 : DataW.trod enc Try.prog w base spare held k 4 (([c0, c1, c2, c3, c4'].drop 3).take (Try.prog.cellsOf 4)) = some y3 := hyg 3 _ rfl
        have g4 : DataW.trod enc Try.prog w base spare held k 9 (([c0, c1, c2, c3, c4'].drop 4).take (Try.prog.cellsOf 9)) = some y4 := hyg 4 _ rfl
        simp only [c4, c9] at g0 g1 g2 g3 g4
        obtain ⟨q, e0, _⟩ := DataW.trod_bool Try.underlying4 g0
        obtain ⟨e, e1, _⟩ := DataW.trod_bool Try.underlying4 g1
        obtain ⟨s, e2, _⟩ := DataW.trod_bool Try.underlying4 g2
        obtain ⟨i, e3, _⟩ := DataW.trod_bool Try.underlying4 g3
        obtain ⟨t, e4, _, _⟩ := DataW.trod_string Try.underlying9 g4
        simp [Value.cells] at e0 e1 e2 e3 e4
        subst e0 e1 e2 e3 e4
        have hw : ∀ (j : Nat) (t : TypeId) (x : DataW H × List MemPlace), [23, 24, 25][j]? = some t → [x0, x1, x2][j]? = some x → ∀ n ∈ x.1.weights Try.prog t, n ≤ reachBytes := fun j t x hj hxj n hn => by
          refine hsz n ?_
          rw [hx.1, DataW.weights, Try.underlying27]
          exact DataW.weights_mem_each (j := j) hj (by rw [List.getElem?_map, hxj]; rfl) n hn
        have k1 : DataW.trod enc Try.prog w base spare held n 24 [c5] = some x1 := by simpa [Value.cells] using h1
        have k2 : DataW.trod enc Try.prog w base spare held n 25 [c6] = some x2 := by simpa [Value.cells] using h2
        obtain ⟨lp, hp1, _, hp3⟩ := open_pieces k1 (hw 1 24 x1 rfl rfl)
        obtain ⟨ln, hn1, hn2, hn3⟩ := open_names k2 (hw 2 25 x2 rfl rfl)
        exact ⟨⟨q, e, s, i, t, lp, ln⟩, ⟨c5, c6, rfl, Sx.ofRd hp1, Tx.ofRd hn1, hn2⟩, hp3, hn3⟩
end
end Go.Proofs.Ytbigolappdlhcaa
