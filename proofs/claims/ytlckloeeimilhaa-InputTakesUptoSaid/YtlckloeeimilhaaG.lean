/- Take. -/
import Derived.Test.YtlckloeeimilhaaF
namespace Go.Proofs.Ytlckloeeimilhaa
set_option linter.unusedSimpArgs false
set_option linter.unusedVariables false
open Go.RowKit

abbrev zeroLine : Value := .agg #[.string ⟨#[]⟩, .bool false]

set_option maxHeartbeats 3200000 in
theorem Take_stop {base X S : Nat} {lv tv av : Value} {x : IS} {tl : List Tl} {w : World} (hx : Inp w base X S lv x) (hs : Src w base S tv av tl (List.range x.asked)) (h : x.err ≠ 0 ∨ x.has = false) (hbase : base ≤ w.heap.size) :
    Calls Try.prog 9 #[.pointer (some ⟨X, 0, none⟩)] w fun e w' => e = .returned (.tuple #[zeroLine, .bool false, .int .i64 x.err]) ∧ LP w w' base X S lv tv tl x ∧ Below w.heap.size w w' := by
  have d12 := (blk_at hx.blk 12 (v := .int .i64 x.err) rfl).1
  have d11 := (blk_at hx.blk 11 (v := .bool x.has) rfl).1
  have HL : Hid (∀ W, Below w.heap.size w W → LP w W base X S lv tv tl x) := fun W hb => ⟨lv, av, hx.to hb, hs.to hb, FrT.ofBelow hb hbase, fun z h => .inl h⟩
  have HX := Lib.hid hx
  have a12 : ∀ o, (w.alloc o).cell? ⟨X, 12, none⟩ = some (.int .i64 x.err) := fun o => bl_cell (bl_alloc w o) d12
  have a11 : ∀ o, (w.alloc o).cell? ⟨X, 11, none⟩ = some (.bool x.has) := fun o => bl_cell (bl_alloc w o) d11
  clear hx hs
  by_cases h0 : x.err = 0
  · have hh : x.has = false := by rcases h with h | h; exact absurd h0 h; exact h
    rw [hh] at d11 a11
    rw [h0] at d12 a12 ⊢
    clear h h0 hh
    go_enter Try.func9, Try.ntmps9
    go_wp2_with fail
    go_region
    all_goals
      go_wp2_with fail
      exact bodyPost_ret (v := .tuple #[zeroLine, .bool false, .int .i64 0]) (by simp [results, Try.results9, go_sem]) rfl ⟨rfl, HL.out _ (bl_alloc w _).drew, (bl_alloc w _).drew⟩
  · have hn : (x.err != 0) = true := by simpa using h0
    clear h h0
    go_enter Try.func9, Try.ntmps9
    go_wp2_with fail
    go_region
    all_goals
      go_wp2_with fail
      exact bodyPost_ret (v := .tuple #[zeroLine, .bool false, .int .i64 x.err]) (by simp [results, Try.results9, go_sem]) rfl ⟨rfl, HL.out _ (bl_alloc w _).drew, (bl_alloc w _).drew⟩

def looked (tl : List Tl) (x : IS) : IS := lookL (tl.drop x.asked) { x with has := false }
def took (tl : List Tl) (x : IS) : IS := { looked tl x with fresh := decide (0 < x.taken) && (x.ni != x.ci), ct := x.nt, cwh := x.nwh, ci := x.ni, cn := x.nn, nowd := x.data, taken := x.taken + 1 }

theorem lookL_same : ∀ (ts : List Tl) (x : IS), (lookL ts x).taken = x.taken ∧ (lookL ts x).ci = x.ci ∧ (lookL ts x).n = x.n ∧ (lookL ts x).sep = x.sep := by
  intro ts
  induction ts with
  | nil => intro x; unfold lookL; split <;> simp
  | cons d ts ih =>
    intro x
    obtain ⟨d, e⟩ := d
    rcases hl : x.left with _ | ⟨⟨t, b⟩, r⟩
    · by_cases h0 : e = 0
      · subst h0; rw [lookL_ok hl]; exact ih _
      · by_cases h1 : e = 31
        · subst h1; rw [lookL_no hl]; exact ih _
        · rw [lookL_err hl h0 h1]; simp
    · rw [lookL_fin hl]; simp

theorem Lv.fr {F : Nat → Prop} {w w' : World} {v : Value} {l : List Ln} (h : Lv w v l) (hf : Fr F w w') (hF : ∀ z, v.ownBlock = some z → ¬ F z) : Lv w' v l := by
  obtain ⟨ao, cap, rfl, hle, hz, hc⟩ := h
  refine ⟨ao, cap, rfl, hle, fun z h => Nat.lt_of_lt_of_le (hz z h) hf.size, fun hn => ?_⟩
  obtain ⟨g, off, cur, rfl, hg, hcc⟩ := hc hn
  exact ⟨g, off, cur, rfl, (hf.block g (lt_of_block hg) (hF g rfl)).trans hg, hcc⟩
/-- A box of a line is written. -/
theorem Inp.box {w : World} {base X S z : Nat} {lv tv av : Value} {x : IS} {tl : List Tl} {al : List Nat} {cs : Array Value} (hx : Inp w base X S lv x) (hs : Src w base S tv av tl al) (hb : w.heap[z]? = some (.cells cs 37 (0, 0))) (ho : lv.ownBlock ≠ some z) (i : Nat) (v : Value) :
    Inp (w.setCell ⟨z, i, none⟩ v) base X S lv x ∧ Src (w.setCell ⟨z, i, none⟩ v) base S tv av tl al ∧ Fr (fun k => k = z) w (w.setCell ⟨z, i, none⟩ v) ∧ (w.setCell ⟨z, i, none⟩ v).heap[z]? = some (.cells (cs.setIfInBounds i v) 37 (0, 0)) := by
  have hf : Fr (fun k => k = z) w (w.setCell ⟨z, i, none⟩ v) := (Fr.refl (fun k => k = z) w).setCell (p := ⟨z, i, none⟩) rfl _
  refine ⟨⟨(hf.block X (lt_of_block hx.blk) ?_).trans hx.blk, hx.left.fr hf (fun g hg e => ho (by rw [hg, e])), hx.le⟩, ⟨(hf.block S (lt_of_block hs.blk) ?_).trans hs.blk, row_fr hf hs.told ?_, row_fr hf hs.asked ?_, hs.le⟩, hf, heap_setCell_same _ _ _ _ _ _ _ hb⟩
  · intro e; subst e; have h1 := hx.blk; rw [hb] at h1; simp at h1
  · intro e; subst e; have h1 := hs.blk; rw [hb] at h1; simp at h1
  · intro g hg e; subst e; exact row_ne hs.told hb (by decide) hg
  · intro g hg e; subst e; exact row_ne hs.asked hb (by decide) hg
theorem FrT.setNew {base : Nat} {w W : World} (h : FrT base w W) (hb : base ≤ w.heap.size) {z : Nat} (hz : w.heap.size ≤ z) (i : Nat) (v : Value) : FrT base w (W.setCell ⟨z, i, none⟩ v) :=
  ⟨h.below.setCell (Nat.le_trans hb hz) _, fun k cs t fr hc h1 h2 h3 => (Below.heap_setCell W ⟨z, i, none⟩ v k (by have := lt_of_block hc; show k ≠ z; omega)).trans (h.keep k cs t fr hc h1 h2 h3)⟩

def TakePost (w : World) (base X S : Nat) (lv tv : Value) (tl : List Tl) (x : IS) (e : Ending) (w' : World) : Prop :=
  ((looked tl x).err ≠ 0 → e = .returned (.tuple #[zeroLine, .bool false, .int .i64 (looked tl x).err]) ∧ LP w w' base X S lv tv tl (looked tl x)) ∧
  ((looked tl x).err = 0 → e = .returned (.tuple #[.agg #[.string x.nt, .bool x.nwh], .bool true, .int .i64 0]) ∧ LP w w' base X S lv tv tl (took tl x))

theorem take_err {w W : World} {base X S : Nat} {lv tv : Value} {tl : List Tl} {x y : IS} (h : looked tl x = y) (hy : y.err ≠ 0) (hp : LP w W base X S lv tv tl y) : TakePost w base X S lv tv tl x (.returned (.tuple #[zeroLine, .bool false, .int .i64 y.err])) W := by
  subst h; exact ⟨fun _ => ⟨rfl, hp⟩, fun h => absurd h hy⟩
theorem take_ok {w W : World} {base X S : Nat} {lv tv : Value} {tl : List Tl} {x y : IS} {fr : Bool} (h : looked tl x = y) (hy : y.err = 0) (hf : fr = (decide (0 < x.taken) && (x.ni != x.ci))) (hp : LP w W base X S lv tv tl { y with fresh := fr, ct := x.nt, cwh := x.nwh, ci := x.ni, cn := x.nn, nowd := x.data, taken := x.taken + 1 }) : TakePost w base X S lv tv tl x (.returned (.tuple #[.agg #[.string x.nt, .bool x.nwh], .bool true, .int .i64 0])) W := by
  subst h hf; exact ⟨fun h => absurd hy h, fun _ => ⟨rfl, hp⟩⟩
set_option maxRecDepth 4000 in
set_option maxHeartbeats 6400000 in
theorem Take_go {base X S : Nat} {lv tv av : Value} {x : IS} {tl : List Tl} {w : World} (hx : Inp w base X S lv x) (hs : Src w base S tv av tl (List.range x.asked)) (h0 : x.err = 0) (hh : x.has = true) (hn : x.n = tl.length) (hak : x.asked ≤ tl.length) (htl : tl.length ≤ 1048576) (hsz : ∀ d ∈ tl, d.1.size ≤ 5864062014804) (hct : x.counted ≤ 5864062014804) (htk : x.taken ≤ 9223372036854775806) (hbase : base ≤ w.heap.size) :
    Calls Try.prog 9 #[.pointer (some ⟨X, 0, none⟩)] w (TakePost w base X S lv tv tl x) := by
  have HX := Lib.hid hx
  have HS := Lib.hid hs
  have a12 : ∀ o, (w.alloc o).cell? ⟨X, 12, none⟩ = some (.int .i64 0) := fun o => bl_cell (bl_alloc w o) (by rw [← h0]; exact (blk_at hx.blk 12 (v := .int .i64 x.err) rfl).1)
  have a11 : ∀ o, (w.alloc o).cell? ⟨X, 11, none⟩ = some (.bool true) := fun o => bl_cell (bl_alloc w o) (by rw [← hh]; exact (blk_at hx.blk 11 (v := .bool x.has) rfl).1)
  have b4 := (blk_at hx.blk 4 (v := .string x.data) rfl).1
  have b7 := (blk_at hx.blk 7 (v := .string x.nt) rfl).1
  have b8 := (blk_at hx.blk 8 (v := .bool x.nwh) rfl).1
  have b9 := (blk_at hx.blk 9 (v := .int .i64 x.ni) rfl).1
  have ba := (blk_at hx.blk 10 (v := .int .i64 x.nn) rfl).1
  have c4 : ∀ o, (w.alloc o).cell? ⟨X, 4, none⟩ = some (.string x.data) := fun o => bl_cell (bl_alloc w o) b4
  have c7 : ∀ o, (w.alloc o).cell? ⟨X, 7, none⟩ = some (.string x.nt) := fun o => bl_cell (bl_alloc w o) b7
  have c8 : ∀ o, (w.alloc o).cell? ⟨X, 8, none⟩ = some (.bool x.nwh) := fun o => bl_cell (bl_alloc w o) b8
  have c9 : ∀ o, (w.alloc o).cell? ⟨X, 9, none⟩ = some (.int .i64 x.ni) := fun o => bl_cell (bl_alloc w o) b9
  have ca : ∀ o, (w.alloc o).cell? ⟨X, 10, none⟩ = some (.int .i64 x.nn) := fun o => bl_cell (bl_alloc w o) ba
  have e4 : ∀ o o', ((w.alloc o).alloc o').cell? ⟨X, 4, none⟩ = some (.string x.data) := fun o o' => bl_cell (bl_to (bl_alloc w o) (bl_alloc _ o')) b4
  have e7 : ∀ o o', ((w.alloc o).alloc o').cell? ⟨X, 7, none⟩ = some (.string x.nt) := fun o o' => bl_cell (bl_to (bl_alloc w o) (bl_alloc _ o')) b7
  have e8 : ∀ o o', ((w.alloc o).alloc o').cell? ⟨X, 8, none⟩ = some (.bool x.nwh) := fun o o' => bl_cell (bl_to (bl_alloc w o) (bl_alloc _ o')) b8
  have e9 : ∀ o o', ((w.alloc o).alloc o').cell? ⟨X, 9, none⟩ = some (.int .i64 x.ni) := fun o o' => bl_cell (bl_to (bl_alloc w o) (bl_alloc _ o')) b9
  have ea : ∀ o o', ((w.alloc o).alloc o').cell? ⟨X, 10, none⟩ = some (.int .i64 x.nn) := fun o o' => bl_cell (bl_to (bl_alloc w o) (bl_alloc _ o')) ba
  clear hx hs b4 b7 b8 b9 ba
  go_enter Try.func9, Try.ntmps9
  go_wp2_with fail
  go_region
  obtain ⟨W5, hW5⟩ : ∃ W5, W5 = ((w.alloc (.cells #[.string ⟨#[]⟩, .bool false] 37)).alloc (.cells #[.string x.nt, .bool x.nwh, .int .i64 x.ni, .int .i64 x.nn] 60)).drew := ⟨_, rfl⟩
  have hB5 : Below w.heap.size w W5 := by rw [hW5]; exact (bl_to (bl_alloc w _) (bl_alloc _ _)).drew
  have hs5 : W5.heap.size = w.heap.size + 1 + 1 := by rw [hW5]; simp
  have h37 : W5.heap[w.heap.size]? = some (.cells #[.string ⟨#[]⟩, .bool false] 37 (0, 0)) := by
    rw [hW5]; show ((w.alloc _).alloc _).heap[w.heap.size]? = _
    rw [heap_alloc_old _ _ (by simp)]; exact heap_alloc_new w _
  have h60 : W5.heap[w.heap.size + 1]? = some (.cells #[.string x.nt, .bool x.nwh, .int .i64 x.ni, .int .i64 x.nn] 60 (0, 0)) := by
    rw [hW5]; show ((w.alloc _).alloc _).heap[w.heap.size + 1]? = _
    have := heap_alloc_new (w.alloc (.cells #[.string ⟨#[]⟩, .bool false] 37)) (.cells #[.string x.nt, .bool x.nwh, .int .i64 x.ni, .int .i64 x.nn] 60)
    rwa [show (w.alloc (.cells #[.string ⟨#[]⟩, .bool false] 37)).heap.size = w.heap.size + 1 by simp] at this
  have HB5 := Lib.hid hB5
  have H37 := Lib.hid h37
  have H60 := Lib.hid h60
  clear a11 a12 c4 c7 c8 c9 ca e4 e7 e8 e9 ea hB5 h37 h60
  simp only [← hW5]
  clear hW5
  go_wp2_with fail
  refine (look_any base X S lv tv av tl x _ (HX.out.to HB5.out) (HS.out.to HB5.out) hn hak htl hsz hct (by omega)).mono ?_
  rintro e w2 ⟨rfl, lv2, av2, h1, h2, h3, h4⟩
  have hsame := lookL_same (tl.drop x.asked) { x with has := false }
  obtain ⟨z1, z2, _, _⟩ := hsame
  simp only at z1 z2
  generalize hyl : lookL (tl.drop x.asked) { x with has := false } = y at *
  have HYL : Hid (looked tl x = y) := hyl
  clear hyl
  have k37 := h3.keep _ _ _ _ H37.out (by decide) (by decide) (by decide)
  have k60 := h3.keep _ _ _ _ H60.out (by decide) (by decide) (by decide)
  have hown : lv2.ownBlock ≠ some w.heap.size := by
    intro e
    rcases h4 _ e with e | e
    · obtain ⟨_, _, _, _, hz, _⟩ := HX.out.left
      have := hz _ e; omega
    · omega
  have HI2 := Lib.hid h1
  have HS2 := Lib.hid h2
  have HT2 : Hid (FrT base w w2) := (FrT.ofBelow HB5.out hbase).trans h3
  have HO2 : Hid (Own w lv lv2) := fun z hz => (h4 z hz).imp id (fun h => by omega)
  have HOW := Lib.hid hown
  have d12 := (blk_at h1.blk 12 (v := .int .i64 y.err) rfl).1
  obtain ⟨m0, n0⟩ := blk_at k37 0 (v := .string ⟨#[]⟩) rfl
  obtain ⟨m1, n1⟩ := blk_at k37 1 (v := .bool false) rfl
  have K37 := Lib.hid k37
  by_cases hy : y.err = 0
  · rw [hy] at d12
    have d18 := (blk_at h1.blk 18 (v := .int .i64 y.taken) rfl).1
    have d16 := (blk_at h1.blk 16 (v := .int .i64 y.ci) rfl).1
    rw [z1] at d18
    rw [z2] at d16
    obtain ⟨d19, g19⟩ := blk_at h1.blk 19 (v := .bool y.fresh) rfl
    obtain ⟨p1, _⟩ := blk_at k60 2 (v := .int .i64 x.ni) rfl
    have K60 := Lib.hid k60
    have hfr : ∃ fr, fr = (decide (0 < x.taken) && (x.ni != x.ci)) := ⟨_, rfl⟩
    obtain ⟨fr, hfr⟩ := hfr
    have HFR := Lib.hid hfr
    have s1 := HI2.out.set 19 (.bool fr) { y with fresh := fr } lv2 rfl HI2.out.left
    have r1 := HS2.out.set HI2.out s1.2.2 s1.2.1
    have S1 := Lib.hid s1
    have R1 := Lib.hid r1
    have HZ : Hid (w.heap.size < w2.heap.size ∧ w.heap.size + 1 < w2.heap.size) := ⟨lt_of_block k37, lt_of_block k60⟩
    clear h1 h2 h3 h4 k37 k60 hown s1 r1 m0 n0 m1 n1
    rcases (show x.taken = 0 ∨ 0 < x.taken by omega) with ht | ht
    · rw [ht] at d18
      have hf0 : fr = false := by rw [hfr, ht]; rfl
      go_wp2_with fail
      go_region
      all_goals
        try clear ht1 ht2
        clear ht
        rw [← hf0]
        obtain ⟨W9, hW9⟩ : ∃ W9, W9 = (w2.setCell ⟨X, 19, none⟩ (.bool fr)).drew := ⟨_, rfl⟩
        rw [← hW9]
        have hAll : Inp W9 base X S lv2 { y with fresh := fr } ∧ Src W9 base S tv av2 tl (List.range y.asked) ∧ FrT base w W9 ∧ W9.heap[w.heap.size]? = some (.cells #[.string ⟨#[]⟩, .bool false] 37 (0, 0)) ∧ W9.heap[w.heap.size + 1]? = some (.cells #[.string x.nt, .bool x.nwh, .int .i64 x.ni, .int .i64 x.nn] 60 (0, 0)) := by
          rw [hW9]
          have hX := lt_of_block HX.out.blk
          have D : Below (w2.setCell ⟨X, 19, none⟩ (.bool fr)).heap.size (w2.setCell ⟨X, 19, none⟩ (.bool fr)) (w2.setCell ⟨X, 19, none⟩ (.bool fr)).drew := (Below.refl _ _).drew
          exact ⟨S1.out.1.to D, R1.out.to D, (HT2.out.trans S1.out.2.1).trans (FrT.ofBelow D S1.out.1.lt), (S1.out.2.2.block _ HZ.out.1 (fun e => by have e2 : w.heap.size = X := e; omega)).trans K37.out, (S1.out.2.2.block _ HZ.out.2 (fun e => by have e2 : w.heap.size + 1 = X := e; omega)).trans K60.out⟩
        clear hW9 d12 d18 d16 d19 g19 p1
        obtain ⟨i9, r9, t9, k37, k60⟩ := hAll
        obtain ⟨u14, v14⟩ := blk_at i9.blk 14 (v := .string y.ct) rfl
        obtain ⟨u15, v15⟩ := blk_at i9.blk 15 (v := .bool y.cwh) rfl
        obtain ⟨u16, v16⟩ := blk_at i9.blk 16 (v := .int .i64 y.ci) rfl
        obtain ⟨u17, v17⟩ := blk_at i9.blk 17 (v := .int .i64 y.cn) rfl
        obtain ⟨u18, v18⟩ := blk_at i9.blk 18 (v := .int .i64 y.taken) rfl
        obtain ⟨u20, v20⟩ := blk_at i9.blk 20 (v := .string y.nowd) rfl
        rw [z1] at u18
        obtain ⟨m0, n0⟩ := blk_at k37 0 (v := .string ⟨#[]⟩) rfl
        obtain ⟨m1, n1⟩ := blk_at k37 1 (v := .bool false) rfl
        obtain ⟨p0, _⟩ := blk_at k60 0 (v := .string x.nt) rfl
        obtain ⟨p1, _⟩ := blk_at k60 1 (v := .bool x.nwh) rfl
        obtain ⟨p2, _⟩ := blk_at k60 2 (v := .int .i64 x.ni) rfl
        obtain ⟨p3, _⟩ := blk_at k60 3 (v := .int .i64 x.nn) rfl
        have c1 := i9.set 14 (.string x.nt) { y with fresh := fr, ct := x.nt } lv2 rfl i9.left
        have c2 := c1.1.set 15 (.bool x.nwh) { y with fresh := fr, ct := x.nt, cwh := x.nwh } lv2 rfl c1.1.left
        have c3 := c2.1.set 16 (.int .i64 x.ni) { y with fresh := fr, ct := x.nt, cwh := x.nwh, ci := x.ni } lv2 rfl c2.1.left
        have c4 := c3.1.set 17 (.int .i64 x.nn) { y with fresh := fr, ct := x.nt, cwh := x.nwh, ci := x.ni, cn := x.nn } lv2 rfl c3.1.left
        have c5 := c4.1.set 20 (.string x.data) { y with fresh := fr, ct := x.nt, cwh := x.nwh, ci := x.ni, cn := x.nn, nowd := x.data } lv2 rfl c4.1.left
        have f5 : Fr (fun k => k = X) W9 _ := (((c1.2.2.trans c2.2.2 (fun _ _ e => e)).trans c3.2.2 (fun _ _ e => e)).trans c4.2.2 (fun _ _ e => e)).trans c5.2.2 (fun _ _ e => e)
        have hX : w.heap.size ≠ X := by have := lt_of_block HX.out.blk; omega
        have hX2 : w.heap.size + 1 ≠ X := by have := lt_of_block HX.out.blk; omega
        have hAll : Inp _ base X S lv2 _ ∧ Src _ base S tv av2 tl (List.range y.asked) ∧ FrT base w _ ∧ (World.heap _)[w.heap.size]? = some (.cells #[.string ⟨#[]⟩, .bool false] 37 (0, 0)) ∧ (World.heap _)[w.heap.size + 1]? = some (.cells #[.string x.nt, .bool x.nwh, .int .i64 x.ni, .int .i64 x.nn] 60 (0, 0)) :=
          ⟨c5.1, ((((r9.set i9 c1.2.2 c1.2.1).set c1.1 c2.2.2 c2.2.1).set c2.1 c3.2.2 c3.2.1).set c3.1 c4.2.2 c4.2.1).set c4.1 c5.2.2 c5.2.1, ((((t9.trans c1.2.1).trans c2.2.1).trans c3.2.1).trans c4.2.1).trans c5.2.1, (f5.block _ (lt_of_block k37) hX).trans k37, (f5.block _ (lt_of_block k60) hX2).trans k60⟩
        clear c1 c2 c3 c4 c5 f5 hX hX2 i9 r9 t9 k37 k60
        iterate 35 go_step
        obtain ⟨W10, hW10⟩ : ∃ W10, W10 = (((((W9.setCell ⟨X, 14, none⟩ (.string x.nt)).setCell ⟨X, 15, none⟩ (.bool x.nwh)).setCell ⟨X, 16, none⟩ (.int .i64 x.ni)).setCell ⟨X, 17, none⟩ (.int .i64 x.nn)).setCell ⟨X, 20, none⟩ (.string x.data)) := ⟨_, rfl⟩
        simp only [← hW10] at hAll ⊢
        clear hW10 u14 v14 u15 v15 u16 v16 u17 v17 u18 v18 u20 v20 m0 n0 m1 n1 p0 p1 p2 p3
        obtain ⟨i9, r9, t9, k37, k60⟩ := hAll
        obtain ⟨u18, v18⟩ := blk_at i9.blk 18 (v := .int .i64 y.taken) rfl
        rw [z1] at u18
        obtain ⟨m0, n0⟩ := blk_at k37 0 (v := .string ⟨#[]⟩) rfl
        obtain ⟨m1, n1⟩ := blk_at k37 1 (v := .bool false) rfl
        obtain ⟨p0, _⟩ := blk_at k60 0 (v := .string x.nt) rfl
        obtain ⟨p1, _⟩ := blk_at k60 1 (v := .bool x.nwh) rfl
        have c6 := i9.set 18 (.int .i64 ((x.taken : Int) + 1)) { y with fresh := fr, ct := x.nt, cwh := x.nwh, ci := x.ni, cn := x.nn, nowd := x.data, taken := x.taken + 1 } lv2 rfl i9.left
        have e6 := r9.set i9 c6.2.2 c6.2.1
        have hX : w.heap.size ≠ X := by have := lt_of_block HX.out.blk; omega
        have hX2 : w.heap.size + 1 ≠ X := by have := lt_of_block HX.out.blk; omega
        have b6 := (c6.2.2.block _ (lt_of_block k37) hX).trans k37
        have b60 := (c6.2.2.block _ (lt_of_block k60) hX2).trans k60
        have c7 := c6.1.box e6 b6 HOW.out 0 (.string x.nt)
        have c8 := c7.1.box c7.2.1 c7.2.2.2 HOW.out 1 (.bool x.nwh)
        have HP := Lib.hid (show LP w _ base X S lv tv tl _ from ⟨lv2, av2, c8.1, c8.2.1, ((t9.trans c6.2.1).setNew hbase (Nat.le_refl _) _ _).setNew hbase (Nat.le_refl _) _ _, HO2.out⟩)
        obtain ⟨m02, n02⟩ := blk_at b6 0 (v := .string ⟨#[]⟩) rfl
        obtain ⟨m12, n12⟩ := blk_at b6 1 (v := .bool false) rfl
        obtain ⟨p02, _⟩ := blk_at b60 0 (v := .string x.nt) rfl
        obtain ⟨p12, _⟩ := blk_at b60 1 (v := .bool x.nwh) rfl
        have hw := wrap_in ((x.taken : Int) + 1) (by omega) (by omega)
        clear c6 c7 c8 e6 b6 b60 hX hX2 i9 r9 t9 k37 k60 hfr hf0
        go_wp2_with fail
        exact bodyPost_ret (v := .tuple #[.agg #[.string x.nt, .bool x.nwh], .bool true, .int .i64 0]) (by simp [results, Try.results9, go_sem, m0, m1, n0, n1]) rfl (take_ok HYL.out hy HFR.out HP.out)
    · have ht1 : decide (0 < x.taken) = true := decide_eq_true ht
      have ht2 : (0 : Int) < (x.taken : Int) := by omega
      have hf0 : fr = (x.ni != x.ci) := by rw [hfr, ht1]; rfl
      go_wp2_with fail
      go_region
      all_goals
        try clear ht1 ht2
        clear ht
        rw [← hf0]
        obtain ⟨W9, hW9⟩ : ∃ W9, W9 = (w2.setCell ⟨X, 19, none⟩ (.bool fr)).drew := ⟨_, rfl⟩
        rw [← hW9]
        have hAll : Inp W9 base X S lv2 { y with fresh := fr } ∧ Src W9 base S tv av2 tl (List.range y.asked) ∧ FrT base w W9 ∧ W9.heap[w.heap.size]? = some (.cells #[.string ⟨#[]⟩, .bool false] 37 (0, 0)) ∧ W9.heap[w.heap.size + 1]? = some (.cells #[.string x.nt, .bool x.nwh, .int .i64 x.ni, .int .i64 x.nn] 60 (0, 0)) := by
          rw [hW9]
          have hX := lt_of_block HX.out.blk
          have D : Below (w2.setCell ⟨X, 19, none⟩ (.bool fr)).heap.size (w2.setCell ⟨X, 19, none⟩ (.bool fr)) (w2.setCell ⟨X, 19, none⟩ (.bool fr)).drew := (Below.refl _ _).drew
          exact ⟨S1.out.1.to D, R1.out.to D, (HT2.out.trans S1.out.2.1).trans (FrT.ofBelow D S1.out.1.lt), (S1.out.2.2.block _ HZ.out.1 (fun e => by have e2 : w.heap.size = X := e; omega)).trans K37.out, (S1.out.2.2.block _ HZ.out.2 (fun e => by have e2 : w.heap.size + 1 = X := e; omega)).trans K60.out⟩
        clear hW9 d12 d18 d16 d19 g19 p1
        obtain ⟨i9, r9, t9, k37, k60⟩ := hAll
        obtain ⟨u14, v14⟩ := blk_at i9.blk 14 (v := .string y.ct) rfl
        obtain ⟨u15, v15⟩ := blk_at i9.blk 15 (v := .bool y.cwh) rfl
        obtain ⟨u16, v16⟩ := blk_at i9.blk 16 (v := .int .i64 y.ci) rfl
        obtain ⟨u17, v17⟩ := blk_at i9.blk 17 (v := .int .i64 y.cn) rfl
        obtain ⟨u18, v18⟩ := blk_at i9.blk 18 (v := .int .i64 y.taken) rfl
        obtain ⟨u20, v20⟩ := blk_at i9.blk 20 (v := .string y.nowd) rfl
        rw [z1] at u18
        obtain ⟨m0, n0⟩ := blk_at k37 0 (v := .string ⟨#[]⟩) rfl
        obtain ⟨m1, n1⟩ := blk_at k37 1 (v := .bool false) rfl
        obtain ⟨p0, _⟩ := blk_at k60 0 (v := .string x.nt) rfl
        obtain ⟨p1, _⟩ := blk_at k60 1 (v := .bool x.nwh) rfl
        obtain ⟨p2, _⟩ := blk_at k60 2 (v := .int .i64 x.ni) rfl
        obtain ⟨p3, _⟩ := blk_at k60 3 (v := .int .i64 x.nn) rfl
        have c1 := i9.set 14 (.string x.nt) { y with fresh := fr, ct := x.nt } lv2 rfl i9.left
        have c2 := c1.1.set 15 (.bool x.nwh) { y with fresh := fr, ct := x.nt, cwh := x.nwh } lv2 rfl c1.1.left
        have c3 := c2.1.set 16 (.int .i64 x.ni) { y with fresh := fr, ct := x.nt, cwh := x.nwh, ci := x.ni } lv2 rfl c2.1.left
        have c4 := c3.1.set 17 (.int .i64 x.nn) { y with fresh := fr, ct := x.nt, cwh := x.nwh, ci := x.ni, cn := x.nn } lv2 rfl c3.1.left
        have c5 := c4.1.set 20 (.string x.data) { y with fresh := fr, ct := x.nt, cwh := x.nwh, ci := x.ni, cn := x.nn, nowd := x.data } lv2 rfl c4.1.left
        have f5 : Fr (fun k => k = X) W9 _ := (((c1.2.2.trans c2.2.2 (fun _ _ e => e)).trans c3.2.2 (fun _ _ e => e)).trans c4.2.2 (fun _ _ e => e)).trans c5.2.2 (fun _ _ e => e)
        have hX : w.heap.size ≠ X := by have := lt_of_block HX.out.blk; omega
        have hX2 : w.heap.size + 1 ≠ X := by have := lt_of_block HX.out.blk; omega
        have hAll : Inp _ base X S lv2 _ ∧ Src _ base S tv av2 tl (List.range y.asked) ∧ FrT base w _ ∧ (World.heap _)[w.heap.size]? = some (.cells #[.string ⟨#[]⟩, .bool false] 37 (0, 0)) ∧ (World.heap _)[w.heap.size + 1]? = some (.cells #[.string x.nt, .bool x.nwh, .int .i64 x.ni, .int .i64 x.nn] 60 (0, 0)) :=
          ⟨c5.1, ((((r9.set i9 c1.2.2 c1.2.1).set c1.1 c2.2.2 c2.2.1).set c2.1 c3.2.2 c3.2.1).set c3.1 c4.2.2 c4.2.1).set c4.1 c5.2.2 c5.2.1, ((((t9.trans c1.2.1).trans c2.2.1).trans c3.2.1).trans c4.2.1).trans c5.2.1, (f5.block _ (lt_of_block k37) hX).trans k37, (f5.block _ (lt_of_block k60) hX2).trans k60⟩
        clear c1 c2 c3 c4 c5 f5 hX hX2 i9 r9 t9 k37 k60
        iterate 35 go_step
        obtain ⟨W10, hW10⟩ : ∃ W10, W10 = (((((W9.setCell ⟨X, 14, none⟩ (.string x.nt)).setCell ⟨X, 15, none⟩ (.bool x.nwh)).setCell ⟨X, 16, none⟩ (.int .i64 x.ni)).setCell ⟨X, 17, none⟩ (.int .i64 x.nn)).setCell ⟨X, 20, none⟩ (.string x.data)) := ⟨_, rfl⟩
        simp only [← hW10] at hAll ⊢
        clear hW10 u14 v14 u15 v15 u16 v16 u17 v17 u18 v18 u20 v20 m0 n0 m1 n1 p0 p1 p2 p3
        obtain ⟨i9, r9, t9, k37, k60⟩ := hAll
        obtain ⟨u18, v18⟩ := blk_at i9.blk 18 (v := .int .i64 y.taken) rfl
        rw [z1] at u18
        obtain ⟨m0, n0⟩ := blk_at k37 0 (v := .string ⟨#[]⟩) rfl
        obtain ⟨m1, n1⟩ := blk_at k37 1 (v := .bool false) rfl
        obtain ⟨p0, _⟩ := blk_at k60 0 (v := .string x.nt) rfl
        obtain ⟨p1, _⟩ := blk_at k60 1 (v := .bool x.nwh) rfl
        have c6 := i9.set 18 (.int .i64 ((x.taken : Int) + 1)) { y with fresh := fr, ct := x.nt, cwh := x.nwh, ci := x.ni, cn := x.nn, nowd := x.data, taken := x.taken + 1 } lv2 rfl i9.left
        have e6 := r9.set i9 c6.2.2 c6.2.1
        have hX : w.heap.size ≠ X := by have := lt_of_block HX.out.blk; omega
        have hX2 : w.heap.size + 1 ≠ X := by have := lt_of_block HX.out.blk; omega
        have b6 := (c6.2.2.block _ (lt_of_block k37) hX).trans k37
        have b60 := (c6.2.2.block _ (lt_of_block k60) hX2).trans k60
        have c7 := c6.1.box e6 b6 HOW.out 0 (.string x.nt)
        have c8 := c7.1.box c7.2.1 c7.2.2.2 HOW.out 1 (.bool x.nwh)
        have HP := Lib.hid (show LP w _ base X S lv tv tl _ from ⟨lv2, av2, c8.1, c8.2.1, ((t9.trans c6.2.1).setNew hbase (Nat.le_refl _) _ _).setNew hbase (Nat.le_refl _) _ _, HO2.out⟩)
        obtain ⟨m02, n02⟩ := blk_at b6 0 (v := .string ⟨#[]⟩) rfl
        obtain ⟨m12, n12⟩ := blk_at b6 1 (v := .bool false) rfl
        obtain ⟨p02, _⟩ := blk_at b60 0 (v := .string x.nt) rfl
        obtain ⟨p12, _⟩ := blk_at b60 1 (v := .bool x.nwh) rfl
        have hw := wrap_in ((x.taken : Int) + 1) (by omega) (by omega)
        clear c6 c7 c8 e6 b6 b60 hX hX2 i9 r9 t9 k37 k60 hfr hf0
        go_wp2_with fail
        exact bodyPost_ret (v := .tuple #[.agg #[.string x.nt, .bool x.nwh], .bool true, .int .i64 0]) (by simp [results, Try.results9, go_sem, m0, m1, n0, n1]) rfl (take_ok HYL.out hy HFR.out HP.out)
  · have hye : (y.err != 0) = true := by simpa using hy
    have q1 := HI2.out.box HS2.out K37.out HOW.out 0 (.string ⟨#[]⟩)
    have q2 := q1.1.box q1.2.1 q1.2.2.2 HOW.out 1 (.bool false)
    have HP : Hid (LP w ((w2.setCell ⟨w.heap.size, 0, none⟩ (.string ⟨#[]⟩)).setCell ⟨w.heap.size, 1, none⟩ (.bool false)) base X S lv tv tl y) := ⟨lv2, av2, q2.1, q2.2.1, (HT2.out.setNew hbase (Nat.le_refl _) _ _).setNew hbase (Nat.le_refl _) _ _, HO2.out⟩
    clear q1 q2 h1 h2 h3 h4 k37 k60 hown
    go_wp2_with fail
    go_region
    all_goals
      go_wp2_with fail
      exact bodyPost_ret (v := .tuple #[zeroLine, .bool false, .int .i64 y.err]) (by simp [results, Try.results9, go_sem, m0, m1, n0, n1]) rfl (take_err HYL.out hy (HP.out.to ((Below.refl _ _).drew)))
end Go.Proofs.Ytlckloeeimilhaa
