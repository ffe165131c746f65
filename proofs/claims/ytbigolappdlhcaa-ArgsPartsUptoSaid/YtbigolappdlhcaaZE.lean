/- A command line that came in, with its sizes; a command line that lies in a box. -/
import Derived.Test.YtbigolappdlhcaaZD
import Derived.Test.YtbigolappdlhcaaYB
namespace Go.Proofs.Ytbigolappdlhcaa
set_option linter.unusedSimpArgs false
set_option linter.unusedVariables false
open Go.RowKit Go.Deep Go.ChangeShapes Go.WideShapes

theorem read_isM {v : Value} {l : List ByteArray} {w : World} {a : Av} {c : Int} {k : Nat} {o : Option Av} (hR : readL l = (o, c, k)) (ha : o.getD zeroAv = a) (h : Tz w v l) (hsz : ∀ s ∈ l, s.size ≤ 9223372036854775807) : Calls Try.prog 21 #[v] w (RP w a c k) :=
  (read_any v l w h hsz).mono fun _ _ hp => RP.of hR ha hp

/-- The sizes of what came in. -/
def Big (a : Av) : Prop := (∀ p ∈ a.scr, p.2.size ≤ 9223372036854775807) ∧ ∀ s ∈ a.nam, s.size ≤ 9223372036854775807

section
variable {H : Type} {enc : TypeId × Value → H} {w : World} {base : Nat} {spare : Nat → Bool} {held : Bool}
theorem open_namesZ {n : Nat} {v : Value} {x : DataW H × List MemPlace} (h : DataW.trod enc Try.prog w base spare held n 25 [v] = some x) (hsz : ∀ n ∈ x.1.weights Try.prog 25, n ≤ reachBytes) :
    ∃ l : List ByteArray, Rd w v l.length 1 (l.map Value.string) ∧ Nz v ∧ l.length * 16 ≤ 140737488355000 ∧ ∀ s ∈ l, s.size ≤ 9223372036854775807 := by
  obtain ⟨⟨a0, len, cap, rfl⟩, hz⟩ := slice_nz Try.underlying25 h
  obtain ⟨l, hr, hall, hd⟩ := rd_of_trod (v := .slice a0 len cap) (d := x.1) (p := x.2) Try.underlying25 c9 (by omega) (fun t => [Value.string t]) strDat (fun t => t.size ≤ maxLen) (fun _ => rfl) str_el ⟨_, _, _, rfl⟩ ⟨n, h⟩
  rw [flat_strs] at hr
  refine ⟨l, hr, hz, ?_, hall⟩
  rcases hd with ⟨_, rfl⟩ | ⟨sp, hd⟩
  · simp
  · rw [hd] at hsz
    have := hsz (((l.map (strDat (H := H))).length + sp.length) * Try.prog.bytesOf 9) (by simp [DataW.weights, Try.underlying25])
    rw [b9, List.length_map] at this
    have h2 : reachBytes = 140737488351232 := rfl
    rw [h2] at this
    omega
theorem open_piecesZ {n : Nat} {v : Value} {x : DataW H × List MemPlace} (h : DataW.trod enc Try.prog w base spare held n 24 [v] = some x) (hsz : ∀ n ∈ x.1.weights Try.prog 24, n ≤ reachBytes) :
    ∃ l : List Pc, Rd w v l.length 2 (l.flatMap pcells) ∧ Nz v ∧ l.length * 24 ≤ 140737488355000 ∧ ∀ p ∈ l, p.2.size ≤ 9223372036854775807 := by
  obtain ⟨⟨a0, len, cap, rfl⟩, hz⟩ := slice_nz Try.underlying24 h
  obtain ⟨l, hr, hall, hd⟩ := rd_of_trod (v := .slice a0 len cap) (d := x.1) (p := x.2) Try.underlying24 c45 (by omega) pcells pcDat (fun t => t.2.size ≤ maxLen) (fun _ => rfl) pc_el ⟨_, _, _, rfl⟩ ⟨n, h⟩
  refine ⟨l, hr, hz, ?_, hall⟩
  rcases hd with ⟨_, rfl⟩ | ⟨sp, hd⟩
  · simp
  · rw [hd] at hsz
    have := hsz (((l.map (pcDat (H := H))).length + sp.length) * Try.prog.bytesOf 45) (by simp [DataW.weights, Try.underlying24])
    rw [b45, List.length_map] at this
    have h2 : reachBytes = 140737488351232 := rfl
    rw [h2] at this
    omega

set_option maxRecDepth 100000 in
theorem open_argvZ {v : Value} {d : DataW H} {p : List MemPlace} {m : Reach} {bs : Nat} (hok : Value.okWide Try.prog w m bs 27 v) (h : DataW.Trod enc Try.prog w base spare held 27 v d p) (hsz : ∀ n ∈ d.weights Try.prog 27, n ≤ reachBytes) :
    ∃ a : Av, Arg w v a ∧ Big a := by
  obtain ⟨cs, rfl, hl⟩ := okWide_struct Try.underlying27 hok
  obtain ⟨l⟩ := cs
  match l, hl.trans c27 with
  | [c0, c1, c2, c3, c4', c5, c6], _ =>
    obtain ⟨fuel, hf⟩ := h
    obtain ⟨xs, n, _, hx, _, hlen, hg⟩ := DataW.trod_struct Try.underlying27 hf
    match xs, hlen with
    | [x0, x1, x2], _ =>
      have h0 : DataW.trod enc Try.prog w base spare held n 23 (([c0, c1, c2, c3, c4', c5, c6].drop 0).take (Try.prog.cellsOf 23)) = some x0 := hg 0 _ rfl
      have h1 : DataW.trod enc Try.prog w base spare held n 24 (([c0, c1, c2, c3, c4', c5, c6].drop 5).take (Try.prog.cellsOf 24)) = some x1 := hg 1 _ rfl
      have h2 : DataW.trod enc Try.prog w base spare held n 25 (([c0, c1, c2, c3, c4', c5, c6].drop 6).take (Try.prog.cellsOf 25)) = some x2 := hg 2 _ rfl
      simp only [c23, c24, c25] at h0 h1 h2
      simp only [Prod.mk.injEq] at hx
      obtain ⟨ys, k, _, hy, _, hylen, hyg⟩ := DataW.trod_struct Try.underlying23 h0
      match ys, hylen with
      | [y0, y1, y2, y3, y4], _ =>
        have g0 : DataW.trod enc Try.prog w base spare held k 4 (([c0, c1, c2, c3, c4'].drop 0).take (Try.prog.cellsOf 4)) = some y0 := hyg 0 _ rfl
        have g1 : DataW.trod enc Try.prog w base spare held k 4 (([c0, c1, c2, c3, c4'].drop 1).take (Try.prog.cellsOf 4)) = some y1 := hyg 1 _ rfl
        have g2 : DataW.trod enc Try.prog w base spare held k 4 (([c0, c1, c2, c3, c4'].drop 2).take (Try.prog.cellsOf 4)) = some y2 := hyg 2 _ rfl
        have g3 : DataW.trod enc Try.prog w base spare held k 4 (([c0, c1, c2, c3, c4'].drop 3).take (Try.prog.cellsOf 4)) = some y3 := hyg 3 _ rfl
        have g4 : DataW.trod enc Try.prog w base spare held k 9 (([c0, c1, c2, c3, c4'].drop 4).take (Try.prog.cellsOf 9)) = some y4 := hyg 4 _ rfl
        simp only [c4, c9] at g0 g1 g2 g3 g4
        obtain ⟨q, e0, _⟩ := DataW.trod_bool Try.underlying4 g0
        obtain ⟨e, e1, _⟩ := DataW.trod_bool Try.underlying4 g1
        obtain ⟨s, e2, _⟩ := DataW.trod_bool Try.underlying4 g2
        obtain ⟨i, e3, _⟩ := DataW.trod_bool Try.underlying4 g3
        obtain ⟨t, e4, _, _⟩ := DataW.trod_string Try.underlying9 g4
        simp [Value.cells] at e0 e1 e2 e3 e4
        subst e0 e1 e2 e3 e4
        have hw : ∀ (j : Nat) (t : TypeId) (x : DataW H × List MemPlace), [23, 24, 25][j]? = some t → [x0, x1, x2][j]? = some x → ∀ n ∈ x.1.weights Try.prog t, n ≤ reachBytes := fun j t x hj hxj n hn => by
          refine hsz n ?_
          rw [hx.1, DataW.weights, Try.underlying27]
          exact DataW.weights_mem_each (j := j) hj (by rw [List.getElem?_map, hxj]; rfl) n hn
        have k1 : DataW.trod enc Try.prog w base spare held n 24 [c5] = some x1 := by simpa [Value.cells] using h1
        have k2 : DataW.trod enc Try.prog w base spare held n 25 [c6] = some x2 := by simpa [Value.cells] using h2
        obtain ⟨lp, hp1, _, hp3, hp4⟩ := open_piecesZ k1 (hw 1 24 x1 rfl rfl)
        obtain ⟨ln, hn1, hn2, hn3, hn4⟩ := open_namesZ k2 (hw 2 25 x2 rfl rfl)
        exact ⟨⟨q, e, s, i, t, lp, ln⟩, ⟨⟨c5, c6, rfl, Sx.ofRd hp1, Tx.ofRd hn1, hn2⟩, hp3, hn3⟩, hp4, hn4⟩
end

/-- A command line of the call's own, in block B. -/
structure Bx (w : World) (base B : Nat) (a : Av) (so : Option Addr) (sc : Nat) (no : Option Addr) (nc : Nat) : Prop where
  blk : w.heap[B]? = some (.cells (a.cells (.slice so a.scr.length sc) (.slice no a.nam.length nc)) 27 (0, 0))
  r1 : w.ownsRow base 45 2 (.slice so a.scr.length sc) a.scr.length (a.scr.flatMap pcells)
  r2 : w.ownsRow base 9 1 (.slice no a.nam.length nc) a.nam.length (a.nam.map Value.string)
theorem Bx.of {w w' : World} {base : Nat} {a : Av} {so : Option Addr} {sc : Nat} {no : Option Addr} {nc : Nat} (hw : w.alloc (.cells (a.cells (.slice so a.scr.length sc) (.slice no a.nam.length nc)) 27) = w')
    (r1 : w.ownsRow base 45 2 (.slice so a.scr.length sc) a.scr.length (a.scr.flatMap pcells)) (r2 : w.ownsRow base 9 1 (.slice no a.nam.length nc) a.nam.length (a.nam.map Value.string)) :
    Bx w' base w.heap.size a so sc no nc ∧ Below w.heap.size w w' := by
  subst hw
  exact ⟨⟨heap_alloc_new w _, row_to (bl_alloc w _) r1, row_to (bl_alloc w _) r2⟩, bl_alloc w _⟩
section
variable {w w' : World} {base B : Nat} {a : Av} {so : Option Addr} {sc : Nat} {no : Option Addr} {nc : Nat}
theorem Bx.to (h : Bx w base B a so sc no nc) (hb : Below w.heap.size w w') : Bx w' base B a so sc no nc :=
  ⟨(hb.block _ (lt_of_block h.blk)).trans h.blk, row_to hb h.r1, row_to hb h.r2⟩
theorem Bx.ax (h : Bx w base B a so sc no nc) : Ax w (a.val (.slice so a.scr.length sc) (.slice no a.nam.length nc)) a := ⟨_, _, rfl, Sx.ofOwn h.r1, Tx.ofOwn h.r2⟩
theorem Bx.axTo (h : Bx w base B a so sc no nc) (hb : Below w.heap.size w w') : Ax w' (a.val (.slice so a.scr.length sc) (.slice no a.nam.length nc)) a := (h.to hb).ax
theorem Bx.print (h : Bx w base B a so sc no nc) (h1 : a.scr.length ≤ 4611686018427387) (h2 : a.nam.length ≤ 4611686018427387) : Calls Try.prog 13 #[a.val (.slice so a.scr.length sc) (.slice no a.nam.length nc)] w (PrintPost w a) :=
  print_any _ a w _ _ rfl (Sx.ofOwn h.r1) (Tx.ofOwn h.r2) (own_nz h.r2) h1 h2
end
end Go.Proofs.Ytbigolappdlhcaa
