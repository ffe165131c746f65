/- syntax.Print: the writer's Builder, a field of its struct. -/
import Derived.Test.YtlhppbendpnkeaaGreatDoorZR
namespace Go.Proofs.YtlhppbendpnkeaaGreatDoor
set_option linter.unusedSimpArgs false
set_option linter.unusedVariables false
open Go.RowKit

/-- What a writing through R leaves: all below B, and whatever is neither block R nor a row of bytes. -/
structure Ot (B R : Nat) (w w' : World) : Prop where
  below : Below B w w'
  size : w.heap.size ≤ w'.heap.size
  keep : ∀ k o, w.heap[k]? = some o → k ≠ R → (∀ C fr, o ≠ .cells C 5 fr) → w'.heap[k]? = some o
section
variable {B R : Nat} {a b c : World}
theorem Ot.refl (B R : Nat) (w : World) : Ot B R w w := ⟨Below.refl _ _, Nat.le_refl _, fun _ _ h _ _ => h⟩
theorem Ot.trans (h : Ot B R a b) (k : Ot B R b c) : Ot B R a c := ⟨h.below.trans k.below, Nat.le_trans h.size k.size, fun i o hi hn hb => k.keep i o (h.keep i o hi hn hb) hn hb⟩
theorem Ot.ofBelow (h : Below a.heap.size a b) (hB : B ≤ a.heap.size) : Ot B R a b := ⟨h.mono hB, h.size, fun k o hk _ _ => blk_below hk h (blk_lt hk)⟩
theorem Ot.set (h : Ot B R a b) (hB : B ≤ R) (o : Nat) (v : Value) : Ot B R a (b.setCell ⟨R, o, none⟩ v) :=
  ⟨h.below.setCell hB _, by rw [World.size_setCell]; exact h.size, fun k ob hk hn hb => (Below.heap_setCell _ _ _ _ hn).trans (h.keep k ob hk hn hb)⟩
theorem Ot.grown {v : Value} {n : Nat} {xs : List Value} (h : Ot B R a b) (ho : b.ownsRow B 5 1 v n xs) (hg : b.grownBy c v.ownBlock) (hB : B ≤ b.heap.size) : Ot B R a c := by
  refine ⟨h.below.grown hg hB (fun k hk => (ho.lt k hk).1), Nat.le_trans h.size hg.size, fun k ob hk hn hb => ?_⟩
  have h1 := h.keep k ob hk hn hb
  refine (hg.block k (blk_lt h1) (fun e => ?_)).trans h1
  rcases ho.2 with ⟨hv, _⟩ | ⟨g, cap, cur, hv, _, hh, _⟩
  · rw [hv] at e; cases e
  · rw [hv] at e
    simp only [Value.ownBlock, Option.some.injEq] at e
    subst e
    rw [h1] at hh
    simp only [Option.some.injEq] at hh
    exact hb _ _ hh
end
/-- A writer at block R that holds the bytes l. -/
def Wr (w : World) (B R : Nat) (x : Bool) (l : Bs) : Prop :=
  B ≤ R ∧ ∃ p v, (p = .pointer none ∨ p = .pointer (some ⟨R, 0, none⟩)) ∧ w.heap[R]? = some (.cells #[p, v, .bool x] 62 (0, 0)) ∧ w.ownsRow B 5 1 v l.length (Lib.byteCells l) ∧ v.ownBlock ≠ some R
theorem Wr.to {w w' : World} {B R : Nat} {x : Bool} {l : Bs} (h : Wr w B R x l) (hb : Below w.heap.size w w') : Wr w' B R x l := by
  obtain ⟨h1, p, v, h2, h3, h4, h5⟩ := h
  exact ⟨h1, p, v, h2, blk_below h3 hb (blk_lt h3), row_to hb h4, h5⟩
theorem Wr.lt {w : World} {B R : Nat} {x : Bool} {l : Bs} (h : Wr w B R x l) : R < w.heap.size := by
  obtain ⟨h1, p, v, h2, h3, h4, h5⟩ := h
  exact blk_lt h3
theorem Wr.ext {w : World} {B R : Nat} {x : Bool} {l : Bs} (h : Wr w B R x l) : w.cell? ⟨R, 2, none⟩ = some (.bool x) := by
  obtain ⟨h1, p, v, h2, h3, h4, h5⟩ := h
  exact (blk_at h3 2 rfl).1
theorem liesWriter : liesAt Tryz.prog Tryz.prog.depth 62 (3 / Tryz.prog.cellsOf 62) 0 60 1 = true := by kernel_rfl
theorem size60 : (Tryz.prog.info? 60).map (·.size) = some 2 := by kernel_rfl
theorem row_len {w : World} {B n : Nat} {e : TypeId} {v : Value} {xs : List Value} (h : w.ownsRow B e 1 v n xs) : ∃ ao cap, v = .slice ao n cap := row_shape h

set_option maxRecDepth 100000 in
set_option maxHeartbeats 1600000 in
theorem copyCheck_w (R : Nat) (p v : Value) (x : Bool) (w : World) (hp : p = .pointer none ∨ p = .pointer (some ⟨R, 0, none⟩)) (h : w.heap[R]? = some (.cells #[p, v, .bool x] 62 (0, 0))) :
    Calls Tryz.prog 42 #[.pointer (some ⟨R, 0, none⟩)] w fun e w' => e = .returned (.tuple #[]) ∧ (w'.heap[R]? = some (.cells #[.pointer (some ⟨R, 0, none⟩), v, .bool x] 62 (0, 0)) ∧ Ex R w w') := by
  obtain ⟨j, hj, hjs⟩ := Option.map_eq_some_iff.1 size60
  have hsh : w.shape? R = some (62, 3) := by unfold World.shape?; rw [h]; rfl
  have hset : (w.setCell ⟨R, 0, none⟩ (.pointer (some ⟨R, 0, none⟩))).heap[R]? = some (.cells #[.pointer (some ⟨R, 0, none⟩), v, .bool x] 62 (0, 0)) := by
    rw [setCell_eq_setRow _ _ 0 _ _ _ _ h]; exact setRow_heap _ _ _ _ _ _ h
  have H := Lib.hid h
  have HS := Lib.hid hset
  rcases hp with rfl | rfl
  · have h0 : w.cell? ⟨R, 0, none⟩ = some (.pointer none) := (blk_at h 0 rfl).1
    have hfr : w.frozen? ⟨R, 0, none⟩ = false := (blk_at h 0 (v := .pointer none) rfl).2
    clear h hset
    go_enter Tryz.func42, Tryz.ntmps42
    go_wp2_with fail
    rw [Lib.run_to_unsafe w ⟨R, 0, none⟩ Tryz.underlying58 Tryz.underlying104 hj (by rw [hjs]; decide) hsh (show 0 < 3 by decide)]
    simp only [Result.andThen]
    rw [Oper.upon_value]
    go_wp2_with fail
    rw [run_callFunc_extern Tryz.func70 (by kernel_rfl) (by kernel_rfl) (by kernel_rfl) (e := Extern.AbiNoEscape.same) (by kernel_rfl)]
    rw [Lib.run_noEscape]
    simp only [Result.andThen]
    rw [Oper.upon_value]
    go_wp2_with fail
    rw [Lib.run_from_unsafe w ⟨R, 0, none⟩ Tryz.underlying104 Tryz.underlying58 hj hsh liesWriter]
    simp only [Result.andThen]
    rw [Oper.upon_value]
    go_wp2_with fail
    go_end0
    exact ⟨rfl, HS.out, (Ex.refl R w).set 0 _⟩
  · have h0 : w.cell? ⟨R, 0, none⟩ = some (.pointer (some ⟨R, 0, none⟩)) := (blk_at h 0 rfl).1
    clear h hset
    go_enter Tryz.func42, Tryz.ntmps42
    go_wp2_with fail
    rw [Lib.run_neq_ptr_same w _ Tryz.underlying58 hj]
    go_wp2_with fail
    go_end0
    exact ⟨rfl, H.out, Ex.refl R _⟩
theorem own_ex {w w' : World} {B R n : Nat} {v : Value} {xs : List Value} (h : w.ownsRow B 5 1 v n xs) (hx : Ex R w w') (hne : v.ownBlock ≠ some R) : w'.ownsRow B 5 1 v n xs :=
  World.ownsRow.kept (row := some R) h ⟨hx.os, hx.tape, hx.output, hx.size, fun k hk hn => hx.block k hk (fun e => hn (by rw [e]))⟩ (.inr hne)

set_option maxRecDepth 100000 in
set_option maxHeartbeats 3200000 in
theorem WriteString_w (B R : Nat) (x : Bool) (l : Bs) (s : ByteArray) (w : World) (h : Wr w B R x l) (hlen : l.length + s.size ≤ 140737488355328) (hBw : B ≤ w.heap.size) :
    Calls Tryz.prog 28 #[.pointer (some ⟨R, 0, none⟩), .string s] w fun e w' => e = .returned (.tuple #[.int .i64 s.size, .nilIface]) ∧ (Wr w' B R x (l ++ s.data.toList) ∧ Ot B R w w') := by
  obtain ⟨i0, hi0, hz0, hz1, hz2⟩ := info_parts info5
  obtain ⟨hB, p, v, hp, hbk0, hown0, hne⟩ := h
  have HC := Lib.hid (copyCheck_w R p v x w hp hbk0)
  have HOW := Lib.hid hown0
  have HP := Lib.hid hp
  have HBK := Lib.hid hbk0
  clear hown0 hp hbk0
  go_enter Tryz.func28, Tryz.ntmps28
  go_wp2_with fail
  refine HC.out.mono ?_
  rintro e w1 ⟨rfl, hbk, hx1⟩
  have hown := own_ex HOW.out hx1 hne
  have hblt := lt_blk hbk
  have c1 : w1.cell? ⟨R, 1, none⟩ = some v := by simp [World.cell?, hbk]
  have hs1 := hx1.size
  have HT1 : Hid (Ot B R w w1) := ⟨hx1.below hB hBw, hx1.size, fun k o hk hn _ => (hx1.block k (blk_lt hk) hn).trans hk⟩
  have hlb : (Lib.byteCells l).length = l.length := Lib.byteCells_length l
  clear hx1
  go_wp2_with (at_builtin; go_must (refine Lib.wpList_append_own_string _ rfl (.tmp 12) (.tmp 13) 44 9 rfl B 5 i0 Tryz.underlying44 Tryz.underlying9 hi0 hz0 hz1 hz2 _ _ _ rfl hown s rfl (by unfold maxLen; omega) (by omega) (by omega) ?_))
  intro v' w2 hown' hgrow _
  have hb2 : w2.heap[R]? = some (.cells #[.pointer (some ⟨R, 0, none⟩), v, .bool x] 62 (0, 0)) := by
    rw [hgrow.block R hblt (fun e => hne e.symm)]
    exact hbk
  have d1 : w2.cell? ⟨R, 1, none⟩ = some v := by simp [World.cell?, hb2]
  have f1 : w2.frozen? ⟨R, 1, none⟩ = false := by simp [World.frozen?, hb2]
  have HG := Lib.hid ((HT1.out.grown hown hgrow (by omega)).set hB 1 v')
  have hne' : v'.ownBlock ≠ some R := fun e => by
    rcases hown'.2 with ⟨hv, _⟩ | ⟨g, cap, cur, hv, _, hh, _⟩
    · rw [hv] at e; cases e
    · rw [hv] at e
      simp only [Value.ownBlock, Option.some.injEq] at e
      subst e
      rw [hb2] at hh; cases hh
  have HO : Hid ((w2.setCell ⟨R, 1, none⟩ v').ownsRow B 5 1 v' (l.length + s.size) (Lib.byteCells l ++ Lib.strCells s)) := own_ex hown' ((Ex.refl R w2).set 1 _) hne'
  have HB2 : Hid ((w2.setCell ⟨R, 1, none⟩ v').heap[R]? = some (.cells #[.pointer (some ⟨R, 0, none⟩), v', .bool x] 62 (0, 0))) := by
    show _ = _
    rw [setCell_eq_setRow _ _ 1 _ _ _ _ hb2]; exact setRow_heap _ _ _ _ _ _ hb2
  obtain ⟨vo, vc, rfl⟩ : ∃ vo vc, v' = .slice vo (l.length + s.size) vc := by
    rcases hown'.2 with ⟨hv, h0⟩ | ⟨g, cap, cur, hv, _⟩
    · exact ⟨none, 0, by rw [hv]; congr 1; omega⟩
    · exact ⟨_, cap, hv⟩
  clear hown' hgrow
  go_wp2_with fail
  go_ret2
  refine ⟨rfl, ⟨hB, _, _, .inr rfl, HB2.out, ?_, hne'⟩, HG.out⟩
  have e1 : (l ++ s.data.toList).length = l.length + s.size := by rw [List.length_append]; simp
  rw [e1, Lib.byteCells_append, ← Lib.strCells_eq]
  exact HO.out

set_option maxRecDepth 100000 in
set_option maxHeartbeats 1600000 in
theorem Len_w (B R : Nat) (x : Bool) (l : Bs) (w : World) (h : Wr w B R x l) :
    Calls Tryz.prog 81 #[.pointer (some ⟨R, 0, none⟩)] w fun e w' => e = .returned (.int .i64 l.length) ∧ w' = w := by
  obtain ⟨hB, p, v, hp, hbk, hown, hne⟩ := h
  obtain ⟨ao, cap, rfl⟩ := row_len hown
  have c1 : w.cell? ⟨R, 1, none⟩ = some (.slice ao l.length cap) := (blk_at hbk 1 rfl).1
  clear hp hbk hown hne
  go_enter Tryz.func81, Tryz.ntmps81
  go_wp2_with fail
  go_ret
  exact ⟨rfl, rfl⟩

set_option maxRecDepth 100000 in
set_option maxHeartbeats 3200000 in
theorem String_w (B R : Nat) (x : Bool) (l : Bs) (w : World) (h : Wr w B R x l) (h0 : l ≠ []) :
    Calls Tryz.prog 21 #[.pointer (some ⟨R, 0, none⟩)] w fun e w' => e = .returned (.string ⟨l.toArray⟩) ∧ Below B w w' := by
  obtain ⟨hB, p, v, hp, hbk, hown, hne⟩ := h
  have hl0 : l.length ≠ 0 := by simpa using h0
  obtain ⟨g, cap, cur, rfl, hbg, hg, hnc, hcm, hcs, htake⟩ : ∃ g cap cur, v = .slice (some ⟨g, 0, none⟩) l.length cap ∧ B ≤ g ∧ w.heap[g]? = some (.cells cur 5 (0, 0)) ∧ l.length ≤ cap ∧ cap ≤ maxLen ∧ cur.size = cap * 1 ∧ cur.toList.take (l.length * 1) = Lib.byteCells l := by
    rcases hown.2 with ⟨_, hz⟩ | ⟨g, cap, cur, hv, r⟩
    · exact absurd hz hl0
    · exact ⟨g, cap, cur, hv, r⟩
  have c1 : w.drew.cell? ⟨R, 1, none⟩ = some (.slice (some ⟨g, 0, none⟩) l.length cap) := (blk_at (w := w.drew) (b := R) (t := 62) hbk 1 rfl).1
  have hSD : (Builtin.unsafeSliceData_ #[44] 86 #[.slice (some ⟨g, 0, none⟩) l.length cap]).run Tryz.prog w.drew = .ok (.pointer (some ⟨g, 0, none⟩)) w.drew :=
    Lib.run_unsafeSliceData_row _ _ _ _ _ _ (by omega)
  have hUS : (Builtin.unsafeString_ #[86, 3] 9 #[.pointer (some ⟨g, 0, none⟩), .int .i64 l.length]).run Tryz.prog w.drew = .ok (.string ⟨l.toArray⟩) (w.drew.freeze ⟨g, 0, none⟩ l.length) := by
    refine Lib.run_unsafeString_row w.drew 86 3 9 5 Tryz.underlying86 (by kernel_rfl) g cur.size (by have hg' : w.drew.heap[g]? = some (.cells cur 5 (0, 0)) := hg; simp [World.shape?, hg']) l h0 (by omega) (by unfold maxLen at hcm; omega) ?_
    intro j y hy
    exact hown.cells (g := g) rfl j (.int .u8 y.toNat) (by simp [Lib.byteCells, hy])
  clear hp hbk hown hne hg hcs htake h0
  go_enter Tryz.func21, Tryz.ntmps21
  go_wp2_with fail
  go_region
  all_goals (go_wp2_with fail; go_ret; exact ⟨rfl, Lib.below_freeze (Below.drew (Below.refl B w)) (p := ⟨g, 0, none⟩) hbg _⟩)

set_option maxRecDepth 100000 in
set_option maxHeartbeats 1600000 in
/-- put: a text within the bound. -/
theorem put_any (B R : Nat) (x : Bool) (l : Bs) (s : ByteArray) (w : World) (h : Wr w B R x l) (hlen : l.length + s.size ≤ 4096) (hBw : B ≤ w.heap.size) :
    Calls Tryz.prog 61 #[.pointer (some ⟨R, 0, none⟩), .string s] w fun e w' => e = .returned (.tuple #[]) ∧ (Wr w' B R x (l ++ s.data.toList) ∧ Ot B R w w') := by
  have HW := Lib.hid (WriteString_w B R x l s w h (by omega) hBw)
  have e1 : (l ++ s.data.toList).length = l.length + s.size := by rw [List.length_append]; simp
  have HL := Lib.hid (fun W (hW : Wr W B R x (l ++ s.data.toList)) => Len_w B R x _ W hW)
  rw [e1] at HL
  obtain ⟨n, hn⟩ : ∃ n, l.length + s.size = n := ⟨_, rfl⟩
  rw [hn] at HL hlen
  have l1 : ¬ (4096 : Int) < (n : Int) := by omega
  have l2 : decide ((4096 : Int) < (n : Int)) = false := decide_eq_false l1
  clear h hn e1
  go_enter Tryz.func61, Tryz.ntmps61
  go_wp2_with fail
  refine HW.out.mono ?_
  rintro e w1 ⟨rfl, hw1, ho1⟩
  have H1 := Lib.hid hw1
  have O1 := Lib.hid ho1
  clear hw1 ho1
  go_wp2_with fail
  refine (HL.out w1 H1.out).mono ?_
  rintro e w2 ⟨rfl, rfl⟩
  go_wp2_with fail
  go_end0
  exact ⟨rfl, H1.out, O1.out⟩
end Go.Proofs.YtlhppbendpnkeaaGreatDoor
