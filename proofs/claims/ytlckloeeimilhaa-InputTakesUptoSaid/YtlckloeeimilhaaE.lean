/- The input's block; look. -/
import Derived.Test.YtlckloeeimilhaaD
import Derived.StillTailTactics
import Derived.BigRegion
namespace Go.Proofs.Ytlckloeeimilhaa
set_option linter.unusedSimpArgs false
set_option linter.unusedVariables false
open Go.RowKit

structure IS where
  n : Nat
  sep : Bool
  asked : Nat
  data : ByteArray
  left : List Ln
  counted : Nat
  nt : ByteArray
  nwh : Bool
  ni : Int
  nn : Int
  has : Bool
  err : Int
  passed : Bool
  ct : ByteArray
  cwh : Bool
  ci : Int
  cn : Int
  taken : Nat
  fresh : Bool
  nowd : ByteArray

def srcV (S : Nat) : Value := .iface 24 (.pointer (some ⟨S, 0, none⟩))
def IS.cells (x : IS) (S : Nat) (lv : Value) : Array Value := #[.iface 24 (.pointer (some ⟨S, 0, none⟩)), .int .i64 x.n, .bool x.sep, .int .i64 x.asked, .string x.data, lv, .int .i64 x.counted, .string x.nt, .bool x.nwh, .int .i64 x.ni, .int .i64 x.nn, .bool x.has, .int .i64 x.err, .bool x.passed, .string x.ct, .bool x.cwh, .int .i64 x.ci, .int .i64 x.cn, .int .i64 x.taken, .bool x.fresh, .string x.nowd]

/-- v shows the lines l, that lie in a block of lines. -/
def Lv (w : World) (v : Value) (l : List Ln) : Prop :=
  ∃ ao cap, v = .slice ao l.length cap ∧ l.length ≤ cap ∧ (∀ z, v.ownBlock = some z → z < w.heap.size) ∧ (0 < l.length → ∃ g off cur, ao = some ⟨g, off, none⟩ ∧ w.heap[g]? = some (.cells cur 37 (0, 0)) ∧ ∀ i (hi : i < l.length), cur[off + i * 2]? = some (.string l[i].1) ∧ cur[off + i * 2 + 1]? = some (.bool l[i].2))

theorem Lv.of {w : World} {base : Nat} {v : Value} {l : List Ln} (h : Ls w base v l) : Lv w v l := by
  rcases h.2 with ⟨rfl, h0⟩ | ⟨g, cap, cur, rfl, hb, hg, hle, _, hsz, htk⟩
  · exact ⟨none, 0, by rw [h0], by omega, fun z hz => by simp [Value.ownBlock] at hz, fun h => by omega⟩
  · refine ⟨_, cap, rfl, hle, fun z hz => by simp [Value.ownBlock] at hz; subst hz; exact lt_of_block hg, fun _ => ⟨g, 0, cur, rfl, hg, fun i hi => ?_⟩⟩
    have hx := lcells_get l i hi
    rw [← htk] at hx
    rw [List.getElem?_take, if_pos (by omega), List.getElem?_take, if_pos (by omega)] at hx
    simpa using hx
theorem Lv.keep {base : Nat} {w w' : World} {v : Value} {l : List Ln} (h : Lv w v l) (hf : FrT base w w') : Lv w' v l := by
  obtain ⟨ao, cap, rfl, hle, hz, hc⟩ := h
  refine ⟨ao, cap, rfl, hle, fun z h => Nat.lt_of_lt_of_le (hz z h) hf.below.size, fun hn => ?_⟩
  obtain ⟨g, off, cur, rfl, hg, hcc⟩ := hc hn
  exact ⟨g, off, cur, rfl, hf.keep _ _ _ _ hg (by decide) (by decide) (by decide), hcc⟩
theorem Lv.tail {w : World} {cap : Nat} {x : Ln} {l : List Ln} {g off : Nat} (h : Lv w (.slice (some ⟨g, off, none⟩) (x :: l).length cap) (x :: l)) {cap' : Nat} (hc : l.length ≤ cap') : Lv w (.slice (some ⟨g, off + 2, none⟩) l.length cap') l := by
  obtain ⟨ao, cap, he, hle, hz, hcc⟩ := h
  simp only [Value.slice.injEq, true_and] at he
  obtain ⟨rfl, rfl⟩ := he
  obtain ⟨g', off', cur, hx, hg, hc2⟩ := hcc (by simp)
  simp only [Option.some.injEq, Addr.mk.injEq, and_true] at hx
  obtain ⟨rfl, rfl⟩ := hx
  refine ⟨_, cap', rfl, hc, fun z h => hz z h, fun _ => ⟨g, off + 2, cur, rfl, hg, fun i hi => ?_⟩⟩
  have := hc2 (i + 1) (by simp; omega)
  simp only [List.getElem_cons_succ] at this
  rw [show off + (i + 1) * 2 = off + 2 + i * 2 by omega] at this
  exact this

theorem Lv.cut {w : World} {g off cap : Nat} {l : List Ln} {t : ByteArray} {b : Bool} {r : List Ln} (hl : l = (t, b) :: r) (h : Lv w (.slice (some ⟨g, off, none⟩) l.length cap) l) : Lv w (.slice (some ⟨g, off + 2, none⟩) r.length (cap - 1)) r := by
  subst hl
  refine h.tail ?_
  obtain ⟨_, _, he, hle, _, _⟩ := h
  simp only [Value.slice.injEq] at he
  obtain ⟨_, _, rfl⟩ := he
  simp at hle
  omega
theorem Lv.nil {w : World} (cap : Nat) {r : List Ln} (h : r = []) : Lv w (.slice none r.length cap) r := by
  subst h
  exact ⟨_, cap, rfl, by simp, fun z h => by simp [Value.ownBlock] at h, fun h => by simp at h⟩
theorem Lv.emp {w : World} (g off n c : Nat) (cap : Nat) {l r : List Ln} (hv : Lv w (.slice (some ⟨g, off, none⟩) n c) l) (h : r = []) : Lv w (.slice (some ⟨g, off, none⟩) 0 cap) r := by
  subst h
  obtain ⟨_, _, he, _, hz, _⟩ := hv
  exact ⟨_, cap, rfl, by simp, fun z h => hz z h, fun h => by simp at h⟩
/-- The input's block. -/
structure Inp (w : World) (base X S : Nat) (lv : Value) (x : IS) : Prop where
  blk : w.heap[X]? = some (.cells (x.cells S lv) 62 (0, 0))
  left : Lv w lv x.left
  le : base ≤ X

/-- A look: the told ones that were not asked for are given. -/
def lookL : List Tl → IS → IS
  | ts, x =>
    match x.left with
    | (t, b) :: r => { x with counted := x.counted + 1, nt := t, nwh := b, ni := (x.asked : Int) - 1, nn := x.counted + 1, left := r, has := true }
    | [] =>
      match ts with
      | [] => x
      | (d, y) :: ts =>
        if y = 0 then lookL ts { x with asked := x.asked + 1, data := d, left := splitL d, counted := 0 }
        else if y = 31 then lookL ts { x with asked := x.asked + 1, passed := true }
        else { x with asked := x.asked + 1, err := y }

theorem lookL_ok {y : IS} {d : ByteArray} {ts : List Tl} (hl : y.left = []) : lookL ((d, 0) :: ts) y = lookL ts { y with asked := y.asked + 1, data := d, left := splitL d, counted := 0 } := by
  conv => lhs; unfold lookL
  rw [hl]; simp
theorem lookL_no {y : IS} {d : ByteArray} {ts : List Tl} (hl : y.left = []) : lookL ((d, 31) :: ts) y = lookL ts { y with asked := y.asked + 1, passed := true } := by
  conv => lhs; unfold lookL
  rw [hl]; simp
theorem lookL_err {y : IS} {d : ByteArray} {e : Int} {ts : List Tl} (hl : y.left = []) (h0 : e ≠ 0) (h1 : e ≠ 31) : lookL ((d, e) :: ts) y = { y with asked := y.asked + 1, err := e } := by
  conv => lhs; unfold lookL
  rw [hl]; simp [h0, h1]
theorem lookL_fin {y : IS} {t : ByteArray} {b : Bool} {r : List Ln} {ts : List Tl} (hl : y.left = (t, b) :: r) : lookL ts y = { y with counted := y.counted + 1, nt := t, nwh := b, ni := (y.asked : Int) - 1, nn := y.counted + 1, left := r, has := true } := by
  conv => lhs; unfold lookL
  rw [hl]
theorem lookL_end {y : IS} (hl : y.left = []) : lookL [] y = y := by
  conv => lhs; unfold lookL
  rw [hl]

theorem meth_in (v : Value) (w : World) : (method 191 24 v "Input").run Try.prog w = .ok (51, v) w := by kernel_rfl

/-- A region that draws, all of whose operations but the last ones only read: walked once, in the text's order, in a world that is a letter. -/
theorem region_tail {id : Nat} {Q : Exit → Act → World → Prop} {a : Act} {w : World} {l : List Oper} (n : Nat) (hm : Try.prog.follows .mixedOrders = true) (hB : Region.lexTailB .any l.toArray n = true)
    (h : ∀ W : World, Below w.heap.size w W → wpStill Try.prog l.toArray W (fun a' => wpList Try.prog l.toArray Q (l.drop n) a' W) (l.take n) a) : (Code.region id l.toArray true).wp Try.prog Q a w :=
  wp_region_still_tail n hm hB (h _ ((Below.refl _ _).drew))

/-- Where the row of the lines that are left may lie. -/
def Own (w : World) (lv0 lv : Value) : Prop := ∀ z, lv.ownBlock = some z → lv0.ownBlock = some z ∨ w.heap.size ≤ z
/-- The worlds that hold the input and its source. -/
def LP (w W : World) (base X S : Nat) (lv0 tv : Value) (tl : List Tl) (g : IS) : Prop := ∃ lv av, Inp W base X S lv g ∧ Src W base S tv av tl (List.range g.asked) ∧ FrT base w W ∧ Own w lv0 lv
def LookPost (w : World) (base X S : Nat) (lv0 tv : Value) (tl : List Tl) (x : IS) (e : Ending) (w' : World) : Prop :=
  e = .returned (.tuple #[]) ∧ LP w w' base X S lv0 tv tl (lookL (tl.drop x.asked) { x with has := false })

theorem inp_ne {w : World} {base X S : Nat} {lv tv av : Value} {x : IS} {tl : List Tl} {al : List Nat} (hx : Inp w base X S lv x) (hs : Src w base S tv av tl al) : X ≠ S ∧ av.ownBlock ≠ some X := by
  refine ⟨?_, row_ne hs.asked hx.blk (by decide)⟩
  intro e; subst e
  have h1 := hx.blk; rw [hs.blk] at h1; simp at h1

theorem Inp.fr {F : Nat → Prop} {w w' : World} {base X S : Nat} {lv : Value} {x : IS} (hx : Inp w base X S lv x) (hf : Fr F w w') (hX : ¬ F X) (ht : FrT base w w') : Inp w' base X S lv x :=
  ⟨(hf.block X (lt_of_block hx.blk) hX).trans hx.blk, hx.left.keep ht, hx.le⟩
theorem Inp.to {w w' : World} {base X S : Nat} {lv : Value} {x : IS} (hx : Inp w base X S lv x) (hb : Below w.heap.size w w') : Inp w' base X S lv x :=
  ⟨(hb.block X (lt_of_block hx.blk)).trans hx.blk, hx.left.keep (FrT.ofBelow hb (Nat.le_of_lt (Nat.lt_of_le_of_lt hx.le (lt_of_block hx.blk)))), hx.le⟩

/-- A field is set. -/
theorem Inp.set {w : World} {base X S : Nat} {lv : Value} {x : IS} (hx : Inp w base X S lv x) (i : Nat) (v : Value) (x' : IS) (lv' : Value) (hc : (x.cells S lv).setIfInBounds i v = x'.cells S lv') (hl : Lv w lv' x'.left) : Inp (w.setCell ⟨X, i, none⟩ v) base X S lv' x' ∧ FrT base w (w.setCell ⟨X, i, none⟩ v) ∧ Fr (fun k => k = X) w (w.setCell ⟨X, i, none⟩ v) := by
  have hf : Fr (fun k => k = X) w (w.setCell ⟨X, i, none⟩ v) := (Fr.refl (fun k => k = X) w).setCell (p := ⟨X, i, none⟩) rfl _
  have ht : FrT base w (w.setCell ⟨X, i, none⟩ v) := FrT.ofFr hf (Nat.le_of_lt (Nat.lt_of_le_of_lt hx.le (lt_of_block hx.blk))) (by
    rintro k hk rfl
    exact ⟨hx.le, fun cs t fr h => by rw [hx.blk] at h; simp only [Option.some.injEq, Obj.cells.injEq] at h; exact .inl h.2.1.symm⟩)
  exact ⟨⟨by rw [heap_setCell_same _ _ _ _ _ _ _ hx.blk, hc], hl.keep ht, hx.le⟩, ht, hf⟩
theorem Src.fr {F : Nat → Prop} {w w' : World} {base S : Nat} {tv av : Value} {tl : List Tl} {al : List Nat} (s : Src w base S tv av tl al) (hf : Fr F w w') (hS : ¬ F S) (ha : ∀ g, av.ownBlock = some g → ¬ F g) (ht : FrT base w w') : Src w' base S tv av tl al :=
  ⟨(hf.block S (lt_of_block s.blk) hS).trans s.blk, ht.row s.told (by decide) (by decide) (by decide), row_fr hf s.asked ha, s.le⟩
theorem Src.set {w w' : World} {base X S : Nat} {lv tv av : Value} {x : IS} {tl : List Tl} {al : List Nat} (s : Src w base S tv av tl al) (hx : Inp w base X S lv x) (hf : Fr (fun k => k = X) w w') (ht : FrT base w w') : Src w' base S tv av tl al := by
  have hne := inp_ne hx s
  exact s.fr hf (fun e => hne.1 e.symm) (fun g hg e => hne.2 (by rw [hg, e])) ht
theorem Inp.lt {w : World} {base X S : Nat} {lv : Value} {x : IS} (hx : Inp w base X S lv x) : base ≤ w.heap.size := Nat.le_of_lt (Nat.lt_of_le_of_lt hx.le (lt_of_block hx.blk))

theorem LP.to {w W W' : World} {base X S : Nat} {lv0 tv : Value} {tl : List Tl} {g : IS} (h : LP w W base X S lv0 tv tl g) (hb : Below W.heap.size W W') : LP w W' base X S lv0 tv tl g := by
  obtain ⟨lv, av, h1, h2, h3, h4⟩ := h
  exact ⟨lv, av, h1.to hb, h2.to hb, h3.trans (FrT.ofBelow hb h1.lt), h4⟩
theorem after_ask {wr W w2 : World} {base X S : Nat} {lv tv av : Value} {y : IS} {tl : List Tl} {al : List Nat} (hy : Inp wr base X S lv y) (hs : Src wr base S tv av tl al) (hb : Below wr.heap.size wr W) (hf : Fr (fun i => i = S ∨ av.ownBlock = some i) W w2) (ht : FrT base W w2) : Inp w2 base X S lv y ∧ FrT base wr w2 := by
  have hne := inp_ne hy hs
  exact ⟨(hy.to hb).fr hf (by rintro (e | e); exact hne.1 e; exact hne.2 e) ht, (FrT.ofBelow hb hy.lt).trans ht⟩
/-- The state at the head of look's loop. -/
def LI (w W : World) (base X S : Nat) (lv0 tv : Value) (tl : List Tl) (g : IS) : Prop :=
  ∃ lv av y, Inp W base X S lv y ∧ Src W base S tv av tl (List.range y.asked) ∧ y.n = tl.length ∧ y.asked ≤ tl.length ∧ y.counted ≤ 5864062014804 ∧ lookL (tl.drop y.asked) y = g ∧ FrT base w W ∧ Own w lv0 lv
def askOf (X : Nat) (w : World) : Nat := match w.cell? ⟨X, 3, none⟩ with
  | some (.int _ k) => k.toNat
  | _ => 0
theorem LI.ask {w : World} {base X S : Nat} {lv : Value} {y : IS} (h : Inp w base X S lv y) : askOf X w = y.asked := by
  have := (blk_at h.blk 3 (v := .int .i64 y.asked) rfl).1
  simp [askOf, this]

set_option maxRecDepth 4000 in
set_option maxHeartbeats 6400000 in
theorem look_any (base X S : Nat) (lv tv av : Value) (tl : List Tl) (x : IS) (w : World) (hx : Inp w base X S lv x) (hs : Src w base S tv av tl (List.range x.asked)) (hn : x.n = tl.length) (hak : x.asked ≤ tl.length) (htl : tl.length ≤ 1048576) (hsz : ∀ d ∈ tl, d.1.size ≤ 5864062014804) (hct : x.counted ≤ 5864062014804) (hbase : base ≤ w.heap.size) :
    Calls Try.prog 25 #[.pointer (some ⟨X, 0, none⟩)] w (LookPost w base X S lv tv tl x) := by
  have f11 := (blk_at hx.blk 11 (v := .bool x.has) rfl).2
  have d11 := (blk_at hx.blk 11 (v := .bool x.has) rfl).1
  obtain ⟨h1, h2, h3⟩ := hx.set 11 (.bool false) { x with has := false } lv rfl hx.left
  have HI : Hid (LI w (w.setCell ⟨X, 11, none⟩ (.bool false)) base X S lv tv tl (lookL (tl.drop x.asked) { x with has := false })) := ⟨lv, av, { x with has := false }, h1, hs.set hx h3 h2, hn, hak, hct, rfl, h2, fun z h => .inl h⟩
  unfold LookPost
  obtain ⟨lv0, hlv0⟩ : ∃ lv0, lv0 = lv := ⟨_, rfl⟩
  rw [← hlv0] at HI ⊢
  generalize hG : lookL (tl.drop x.asked) { x with has := false } = G at *
  clear h1 h2 h3 hx hs hn hak hct hG
  go_enter Try.func25, Try.ntmps25
  go_wp2_with fail
  go_loopw [2] (fun _ wr => LI w wr base X S lv0 tv tl G) (fun _ wr => tl.length - askOf X wr)
  case atStart => exact HI.out
  case round =>
    obtain ⟨lv, av, y, hy, hs, hn, hak, hct, hG, hT, hO⟩ := hrel
    have HO := Lib.hid hO
    clear hO
    have HY := Lib.hid hy
    have HS := Lib.hid hs
    have HT := Lib.hid hT
    have HA := Lib.hid (LI.ask hy)
    obtain ⟨ao, cap, rfl, hcap, _, hcl⟩ := hy.left
    have HC := Lib.hid hcl
    have d0 := (blk_at hy.blk 0 (v := .iface 24 (.pointer (some ⟨S, 0, none⟩))) rfl).1
    have d1 := (blk_at hy.blk 1 (v := .int .i64 y.n) rfl).1
    have d3 := (blk_at hy.blk 3 (v := .int .i64 y.asked) rfl).1
    have f3 := (blk_at hy.blk 3 (v := .int .i64 y.asked) rfl).2
    have d5 := (blk_at hy.blk 5 (v := .slice ao y.left.length cap) rfl).1
    have d6 := (blk_at hy.blk 6 (v := .int .i64 y.counted) rfl).1
    have f6 := (blk_at hy.blk 6 (v := .int .i64 y.counted) rfl).2
    clear hy hs hT hcl HI
    rcases hl : y.left with _ | ⟨⟨t, b⟩, r⟩
    · have hl0 : y.left.length = 0 := by rw [hl]; rfl
      rw [hl0] at d5 hcap
      clear HC
      by_cases hask : y.asked < tl.length
      · obtain ⟨d, yv, hx⟩ : ∃ d yv, tl[y.asked] = (d, yv) := ⟨_, _, rfl⟩
        have hdr : tl.drop y.asked = (d, yv) :: tl.drop (y.asked + 1) := by rw [List.drop_eq_getElem_cons hask, hx]
        have hdz := hsz _ (List.getElem_mem hask)
        rw [hx] at hdz
        have hnn : ((y.asked : Int) == (y.n : Int)) = false := by simp; omega
        have hm := meth_in
        go_wp2_with fail
        go_quiet (fail)
        go_wp2_with fail
        go_region_held3 (fun w' => w'.cell? ⟨X, 0, none⟩ = some (.iface 24 (.pointer (some ⟨S, 0, none⟩))) ∧ w'.cell? ⟨X, 3, none⟩ = some (.int .i64 y.asked)) (first | assumption | exact ⟨by simpa using d0, by simpa using d3⟩ | exact ⟨hc0, hc3⟩)
          (first
            | (go_at_call 51; (refine (Ask_any base S tv _ tl (List.range y.asked) y.asked hask d yv hx _ (HS.out.to (below_drewN (Below.refl _ _) _)) (by simp; omega) htl (by simpa using HY.out.lt)).mono ?_); rintro e w2 ⟨rfl, av2, hs2, ht2, hf2⟩; have hA := after_ask HY.out HS.out (below_drewN (Below.refl _ _) _) hf2 ht2; have hc0 := (blk_at hA.1.blk 0 (v := .iface 24 (.pointer (some ⟨S, 0, none⟩))) rfl).1; have hc3 := (blk_at hA.1.blk 3 (v := .int .i64 y.asked) rfl).1; have HA2 := Lib.hid hA; have HS2 := Lib.hid hs2; clear hA hs2 ht2 hf2))
        have g3 := (blk_at HA2.out.1.blk 3 (v := .int .i64 y.asked) rfl).2
        have hw := wrap_in ((y.asked : Int) + 1) (by omega) (by omega)
        have HI3 := Lib.hid (HA2.out.1.set 3 (.int .i64 ((y.asked : Int) + 1)) { y with asked := y.asked + 1 } (.slice ao y.left.length cap) rfl HA2.out.1.left)
        have HS3 : Hid (Src (w2.setCell ⟨X, 3, none⟩ (.int .i64 ((y.asked : Int) + 1))) base S tv av2 tl (List.range (y.asked + 1))) := by
          show Src _ _ _ _ _ _ _
          rw [List.range_succ]; exact HS2.out.set HA2.out.1 HI3.out.2.2 HI3.out.2.1
        have HT3 := Lib.hid ((HT.out.trans HA2.out.2).trans HI3.out.2.1)
        have HG := Lib.hid hG
        have HL := Lib.hid hl
        have HDR := Lib.hid hdr
        have HX := Lib.hid hx
        clear hG hl hdr hx
        by_cases h0 : yv = 0
        · subst h0
          go_wp2_with (go_at_call 7; refine (Split_any d _ hdz).mono ?_; rintro e w4 ⟨sv, rfl, hsv, hb4⟩; obtain ⟨so, sc, rfl, _⟩ := row_shape hsv; have HI4 := Lib.hid (HI3.out.1.to hb4); have HS4 := Lib.hid (HS3.out.to hb4); have HSV := Lib.hid hsv; have q4 := (blk_at HI4.out.blk 4 (v := .string y.data) rfl); have q5 := (blk_at HI4.out.blk 5 (v := .slice ao y.left.length cap) rfl); have q6 := (blk_at HI4.out.blk 6 (v := .int .i64 y.counted) rfl); obtain ⟨q40, q41⟩ := q4; obtain ⟨q50, q51⟩ := q5; obtain ⟨q60, q61⟩ := q6; have HT4 := Lib.hid (HT3.out.trans (FrT.ofBelow hb4 HI3.out.1.lt)); clear hsv hb4)
          have j4 := HI4.out.set 4 (.string d) { y with asked := y.asked + 1, data := d } (.slice ao y.left.length cap) rfl HI4.out.left
          have j5 := j4.1.set 5 (.slice so (splitL d).length sc) { y with asked := y.asked + 1, data := d, left := splitL d } (.slice so (splitL d).length sc) rfl ((Lv.of HSV.out).keep j4.2.1)
          have j6 := j5.1.set 6 (.int .i64 0) { y with asked := y.asked + 1, data := d, left := splitL d, counted := 0 } (.slice so (splitL d).length sc) rfl (j5.1.left)
          have r6 := ((HS4.out.set HI4.out j4.2.2 j4.2.1).set j4.1 j5.2.2 j5.2.1).set j5.1 j6.2.2 j6.2.1
          go_wp2
          go_roundw
          case rel => exact ⟨_, _, { y with asked := y.asked + 1, data := d, left := splitL d, counted := 0 }, j6.1, r6, hn, by show y.asked + 1 ≤ _; omega, by show 0 ≤ _; omega, by rw [← HG.out, HDR.out, lookL_ok HL.out], ((HT4.out.trans j4.2.1).trans j5.2.1).trans j6.2.1, fun z hz => .inr (Nat.le_trans HT3.out.below.size (HSV.out.lt hz).1)⟩
          case measure => rw [LI.ask j6.1, HA.out]; show tl.length - (y.asked + 1) < _; omega
        · by_cases h31 : yv = 31
          · subst h31
            obtain ⟨q0, q1⟩ := blk_at HI3.out.1.blk 13 (v := .bool y.passed) rfl
            have j4 := HI3.out.1.set 13 (.bool true) { y with asked := y.asked + 1, passed := true } (.slice ao y.left.length cap) rfl HI3.out.1.left
            have r4 := HS3.out.set HI3.out.1 j4.2.2 j4.2.1
            have J4 := Lib.hid j4
            have R4 := Lib.hid r4
            clear j4 r4
            go_wp2_with fail
            go_roundw
            case rel => exact ⟨_, _, { y with asked := y.asked + 1, passed := true }, J4.out.1, R4.out, hn, by show y.asked + 1 ≤ _; omega, hct, by rw [← HG.out, HDR.out, lookL_no HL.out], HT3.out.trans J4.out.2.1, HO.out⟩
            case measure => rw [LI.ask J4.out.1, HA.out]; show tl.length - (y.asked + 1) < _; omega
          · have n0 : (yv == 0) = false := by simp [h0]
            have n1 : (yv == 31) = false := by simp [h31]
            obtain ⟨q0, q1⟩ := blk_at HI3.out.1.blk 12 (v := .int .i64 y.err) rfl
            have j4 := HI3.out.1.set 12 (.int .i64 yv) { y with asked := y.asked + 1, err := yv } (.slice ao y.left.length cap) rfl HI3.out.1.left
            have r4 := HS3.out.set HI3.out.1 j4.2.2 j4.2.1
            have J4 := Lib.hid j4
            have R4 := Lib.hid r4
            have HF : Hid ({ y with asked := y.asked + 1, err := yv } = G) := by show _ = _; rw [← HG.out, HDR.out, lookL_err HL.out h0 h31]
            clear j4 r4 h0 h31
            go_wp2_with fail
            ((try simp only [Exit.inBlock, Exit.then]); refine bodyPost_ret (results_none rfl _ _ _) rfl ?_)
            have e := HF.out
            subst e
            exact ⟨rfl, _, _, J4.out.1, R4.out, HT3.out.trans J4.out.2.1, HO.out⟩
      · have hdr : tl.drop y.asked = [] := List.drop_of_length_le (by omega)
        have hyG : y = G := by rw [← hG, hdr]; unfold lookL; rw [hl]
        have hnn : y.n = y.asked := by omega
        rw [hnn] at d1
        have HP : Hid (LP w wr base X S lv0 tv tl G) := ⟨_, _, hyG ▸ HY.out, hyG ▸ HS.out, HT.out, HO.out⟩
        go_wp2_with fail
        go_quiet (fail)
        go_wp2
        ((try simp only [Exit.inBlock, Exit.then]); refine bodyPost_ret (results_none rfl _ _ _) rfl ?_)
        exact ⟨rfl, HP.out.to (below_drewN (Below.refl _ _) _)⟩
    · have hl1 : y.left.length = r.length + 1 := by rw [hl]; rfl
      obtain ⟨g, off, cur, rfl, hg, hcc⟩ := HC.out (by omega)
      have hc0 := hcc 0 (by omega)
      simp only [hl, List.getElem_cons_zero, Nat.zero_mul, Nat.add_zero] at hc0
      have hw1 := wrap_in ((y.counted : Int) + 1) (by omega) (by omega)
      have hw2 := wrap_in ((y.asked : Int) - 1) (by omega) (by omega)
      have j1 := HY.out.set 6 (.int .i64 ((y.counted : Int) + 1)) { y with counted := y.counted + 1 } (.slice (some ⟨g, off, none⟩) y.left.length cap) rfl HY.out.left
      have J1 := Lib.hid j1
      have R1 := Lib.hid (HS.out.set HY.out j1.2.2 j1.2.1)
      have hgk := j1.2.1.keep _ _ _ _ hg (by decide) (by decide) (by decide)
      have HGK := Lib.hid hgk
      have HG := Lib.hid hG
      have HL := Lib.hid hl
      rw [hl1] at d5
      clear j1 hg hcc HC hG hgk
      go_wp2_with fail
      refine region_tail 19 (by kernel_rfl) (by kernel_rfl) (fun W hW0 => ?_)
      have k0 := (blk_at ((hW0.block _ (lt_of_block HGK.out)).trans HGK.out) off hc0.1).1
      have k1 := (blk_at ((hW0.block _ (lt_of_block HGK.out)).trans HGK.out) (off + 1) hc0.2).1
      have JW := Lib.hid (J1.out.1.to hW0)
      have RW := Lib.hid (R1.out.to hW0)
      have TW := Lib.hid ((HT.out.trans J1.out.2.1).trans (FrT.ofBelow hW0 J1.out.1.lt))
      have p3 := (blk_at JW.out.blk 3 (v := .int .i64 y.asked) rfl).1
      have p5 := (blk_at JW.out.blk 5 (v := .slice (some ⟨g, off, none⟩) y.left.length cap) rfl).1
      rw [hl1] at p5
      have p6 := (blk_at JW.out.blk 6 (v := .int .i64 ((y.counted : Int) + 1)) rfl).1
      obtain ⟨p70, p71⟩ := blk_at JW.out.blk 7 (v := .string y.nt) rfl
      obtain ⟨p80, p81⟩ := blk_at JW.out.blk 8 (v := .bool y.nwh) rfl
      obtain ⟨p90, p91⟩ := blk_at JW.out.blk 9 (v := .int .i64 y.ni) rfl
      obtain ⟨pa0, pa1⟩ := blk_at JW.out.blk 10 (v := .int .i64 y.nn) rfl
      clear hW0 hc0 d0 d1 d3 f3 d5 d6 f6 d11 f11
      simp only [List.take_succ_cons, List.take_zero, List.drop_succ_cons, List.drop_zero]
      iterate 19 still_step
      refine wpStill_nil ?_
      have hlo : (1 : Int) ≤ (r.length : Int) + 1 := by omega
      have hlen : (r.length : Int) + 1 ≤ (cap : Int) := by omega
      have j7 := JW.out.set 7 (.string t) { y with counted := y.counted + 1, nt := t } (.slice (some ⟨g, off, none⟩) y.left.length cap) rfl JW.out.left
      have j8 := j7.1.set 8 (.bool b) { y with counted := y.counted + 1, nt := t, nwh := b } (.slice (some ⟨g, off, none⟩) y.left.length cap) rfl j7.1.left
      have j9 := j8.1.set 9 (.int .i64 ((y.asked : Int) - 1)) { y with counted := y.counted + 1, nt := t, nwh := b, ni := (y.asked : Int) - 1 } (.slice (some ⟨g, off, none⟩) y.left.length cap) rfl j8.1.left
      have ja := j9.1.set 10 (.int .i64 ((y.counted : Int) + 1)) { y with counted := y.counted + 1, nt := t, nwh := b, ni := (y.asked : Int) - 1, nn := (y.counted : Int) + 1 } (.slice (some ⟨g, off, none⟩) y.left.length cap) rfl j9.1.left
      have hLP : Inp _ base X S _ _ ∧ Src _ base S tv _ tl (List.range y.asked) ∧ FrT base w _ := ⟨ja.1, (((RW.out.set JW.out j7.2.2 j7.2.1).set j7.1 j8.2.2 j8.2.1).set j8.1 j9.2.2 j9.2.1).set j9.1 ja.2.2 ja.2.1, (((TW.out.trans j7.2.1).trans j8.2.1).trans j9.2.1).trans ja.2.1⟩
      clear j7 j8 j9 ja
      iterate 3 go_step
      obtain ⟨W4, hW4⟩ : ∃ W4, W4 = ((((W.setCell ⟨X, 7, none⟩ (.string t)).setCell ⟨X, 8, none⟩ (.bool b)).setCell ⟨X, 9, none⟩ (.int .i64 ((y.asked : Int) - 1))).setCell ⟨X, 10, none⟩ (.int .i64 ((y.counted : Int) + 1))) := ⟨_, rfl⟩
      simp only [← hW4] at hLP ⊢
      clear hW4 p70 p71 p80 p81 p90 p91 pa0 pa1 p3 p5 p6 k0 k1
      obtain ⟨hI4, hS4, hT4⟩ := hLP
      obtain ⟨p50, p51⟩ := blk_at hI4.blk 5 (v := .slice (some ⟨g, off, none⟩) y.left.length cap) rfl
      obtain ⟨pb0, pb1⟩ := blk_at hI4.blk 11 (v := .bool y.has) rfl
      rw [hl1] at p50
      have HI4 := Lib.hid hI4
      have HS4 := Lib.hid hS4
      have HT4 := Lib.hid hT4
      clear hI4 hS4 hT4
      clear JW RW TW HGK J1 R1 HY HS HT
      have hcl : r.length + 1 ≤ cap := by omega
      rcases (show cap = 1 ∨ (¬ cap = 1 ∧ ¬ 1 = cap) by omega) with hcp | ⟨hcp, hcp2⟩
      · have hr0 : r = [] := by cases r with
          | nil => rfl
          | cons a r => simp at hl1; omega
        have j5 := HI4.out.set 5 (.slice (some ⟨g, off, none⟩) 0 0) { y with counted := y.counted + 1, nt := t, nwh := b, ni := (y.asked : Int) - 1, nn := (y.counted : Int) + 1, left := r } (.slice (some ⟨g, off, none⟩) 0 0) rfl (Lv.emp _ _ _ _ _ HI4.out.left hr0)
        have jb := j5.1.set 11 (.bool true) { y with counted := y.counted + 1, nt := t, nwh := b, ni := (y.asked : Int) - 1, nn := (y.counted : Int) + 1, left := r, has := true } (.slice (some ⟨g, off, none⟩) 0 0) rfl j5.1.left
        have rb := (HS4.out.set HI4.out j5.2.2 j5.2.1).set j5.1 jb.2.2 jb.2.1
        have J5 := Lib.hid j5
        have JB := Lib.hid jb
        have RB := Lib.hid rb
        clear j5 jb rb
        subst hcp
        clear hr0
        go_wp2_with fail
        go_end0
        have e : _ = G := (lookL_fin HL.out).symm.trans HG.out
        subst e
        exact ⟨rfl, _, _, JB.out.1, RB.out, (HT4.out.trans J5.out.2.1).trans JB.out.2.1, fun z hz => HO.out z hz⟩
      · have j5 := HI4.out.set 5 (.slice (some ⟨g, off + 2, none⟩) r.length (cap - 1)) { y with counted := y.counted + 1, nt := t, nwh := b, ni := (y.asked : Int) - 1, nn := (y.counted : Int) + 1, left := r } (.slice (some ⟨g, off + 2, none⟩) r.length (cap - 1)) rfl (Lv.cut HL.out HI4.out.left)
        have jb := j5.1.set 11 (.bool true) { y with counted := y.counted + 1, nt := t, nwh := b, ni := (y.asked : Int) - 1, nn := (y.counted : Int) + 1, left := r, has := true } (.slice (some ⟨g, off + 2, none⟩) r.length (cap - 1)) rfl j5.1.left
        have rb := (HS4.out.set HI4.out j5.2.2 j5.2.1).set j5.1 jb.2.2 jb.2.1
        have J5 := Lib.hid j5
        have JB := Lib.hid jb
        have RB := Lib.hid rb
        clear j5 jb rb
        go_wp2_with fail
        go_end0
        have e : _ = G := (lookL_fin HL.out).symm.trans HG.out
        subst e
        exact ⟨rfl, _, _, JB.out.1, RB.out, (HT4.out.trans J5.out.2.1).trans JB.out.2.1, fun z hz => HO.out z hz⟩
end Go.Proofs.Ytlckloeeimilhaa
