/- Read. -/
import Derived.Test.YtbigolappdlhcaaV
import Derived.Deep.CutBlock
namespace Go.Proofs.Ytbigolappdlhcaa
set_option linter.unusedSimpArgs false
set_option linter.unusedVariables false
open Go.RowKit

/-- Arguments as they are read: the texts, and a slice of a length within its room. -/
structure Tz (w : World) (v : Value) (l : List ByteArray) : Prop where
  tx : Tx w v l
  le : ∀ ao n cap, v = .slice ao n cap → n ≤ cap ∧ (ao = none → cap = 0)

theorem cutTx {W : World} {ao : Option Addr} {cap i m : Nat} {l : List ByteArray} (hl : l.length = i + m) (h : Tx W (.slice ao (i + m) cap) l) (ao' : Option Addr) (c' : Nat) (ha : ao' = ao.map (·.add i) ∨ m = 0) : Tx W (.slice ao' m c') (l.drop i) := by
  have hdl : (l.drop i).length = m := by rw [List.length_drop, hl]; omega
  refine ⟨ao', c', by rw [hdl], fun hn => ?_⟩
  rw [hdl] at hn
  obtain ⟨_, _, e1, hc⟩ := h
  simp only [Value.slice.injEq] at e1
  obtain ⟨rfl, _, rfl⟩ := e1
  obtain ⟨b, off, rfl, hb, hcc⟩ := hc (by omega)
  rcases ha with rfl | h0
  · refine ⟨b, off + i, ?_, hb, fun j hj => ?_⟩
    · simp [Addr.add]
    · rw [List.getElem_drop, Nat.add_assoc]
      exact hcc (i + j) (by rw [hdl] at hj; omega)
  · omega

/-- What a failed Read leaves. -/
def sevenSet (w : World) (b : Nat) : World := ((((((w.setCell ⟨b, 0, none⟩ (.bool false)).setCell ⟨b, 1, none⟩ (.bool false)).setCell ⟨b, 2, none⟩ (.bool false)).setCell ⟨b, 3, none⟩ (.bool false)).setCell ⟨b, 4, none⟩ (.string ⟨#[]⟩)).setCell ⟨b, 5, none⟩ (.slice none 0 0)).setCell ⟨b, 6, none⟩ (.slice none 0 0)

def ReadPost (w : World) (l : List ByteArray) (e : Ending) (w' : World) : Prop :=
  ∃ sv nv, e = .returned (.tuple #[((readL l).1.getD zeroAv).val sv nv, .int .i64 (readL l).2.1, .int .i64 ((readL l).2.2 : Nat)]) ∧
    w'.ownsRow w.heap.size 45 2 sv ((readL l).1.getD zeroAv).scr.length (((readL l).1.getD zeroAv).scr.flatMap pcells) ∧ w'.ownsRow w.heap.size 9 1 nv ((readL l).1.getD zeroAv).nam.length (((readL l).1.getD zeroAv).nam.map Value.string) ∧ Below w.heap.size w w'

theorem read_fail {w w' : World} {l : List ByteArray} {code : Int} {k : Nat} (h : readL l = (none, code, k)) (hb : Below w.heap.size w w') :
    ReadPost w l (.returned (.tuple #[.agg #[.bool false, .bool false, .bool false, .bool false, .string ⟨#[]⟩, .slice none 0 0, .slice none 0 0], .int .i64 code, .int .i64 k])) w' := by
  refine ⟨.slice none 0 0, .slice none 0 0, ?_, ?_, ?_, hb⟩
  · rw [h]; rfl
  · rw [h]; exact World.ownsRow_nil _ _ _ _
  · rw [h]; exact World.ownsRow_nil _ _ _ _
theorem seven_below {B b : Nat} {w wr : World} (h : Below B w wr) (hb : B ≤ b) : Below B w (sevenSet wr b) :=
  ((((((h.setCell hb _).setCell hb _).setCell hb _).setCell hb _).setCell hb _).setCell hb _).setCell hb _

theorem d45 : (⟨#[45, 45]⟩ : ByteArray).toList = [45, 45] := by rw [ByteArray.toList_eq]
theorem d4 : (⟨#[45]⟩ : ByteArray).toList = [45] := by rw [ByteArray.toList_eq]
theorem tail2_le (t : ByteArray) : (tail2 t).size ≤ t.size := by
  have h1 : (tail2 t).size = (Lib.trimPrefix t.data.toList [45, 45]).length := by unfold tail2; simp [ByteArray.size]
  have h2 : t.size = t.data.toList.length := by simp
  rw [h1, h2]
  unfold Lib.trimPrefix
  split
  · rw [List.length_drop]; omega
  · exact Nat.le_refl _
theorem tail2_lt (t : ByteArray) (h : Lib.hasPrefix t.data.toList [45, 45] = true) : (tail2 t).size + 2 ≤ t.size := by
  have h1 : (tail2 t).size = (Lib.trimPrefix t.data.toList [45, 45]).length := by unfold tail2; simp [ByteArray.size]
  have h2 : t.size = t.data.toList.length := by simp
  rw [h1, h2]
  unfold Lib.trimPrefix
  rw [if_pos h, List.length_drop]
  have : [45, 45].length ≤ t.data.toList.length := (List.isPrefixOf_iff_prefix.1 h).length_le
  simp at this ⊢
  omega

theorem cells7' {w : World} {b : Nat} {a : Av} {sv nv : Value} (h : w.heap[b]? = some (.cells (a.cells sv nv) 27 (0, 0))) :
    w.cell? ⟨b, 0, none⟩ = some (.bool a.q) ∧ w.cell? ⟨b, 1, none⟩ = some (.bool a.e) ∧ w.cell? ⟨b, 2, none⟩ = some (.bool a.s) ∧ w.cell? ⟨b, 3, none⟩ = some (.bool a.i) ∧ w.cell? ⟨b, 4, none⟩ = some (.string a.suf) ∧ w.cell? ⟨b, 5, none⟩ = some sv ∧ w.cell? ⟨b, 6, none⟩ = some nv :=
  ⟨(blk_at h 0 rfl).1, (blk_at h 1 rfl).1, (blk_at h 2 rfl).1, (blk_at h 3 rfl).1, (blk_at h 4 rfl).1, (blk_at h 5 rfl).1, (blk_at h 6 rfl).1⟩
theorem clone_any (ao : Option Addr) (k c : Nat) (rl : List ByteArray) (W : World) (hT : Tx W (.slice ao k c) rl) (hk : k ≤ c) (hz : ao = none → c = 0) (hl : rl.length ≤ 65536) :
    Calls Try.prog 36 #[.slice ao k c] W fun e w' => ∃ nv, e = .returned nv ∧ w'.ownsRow W.heap.size 9 1 nv rl.length (rl.map Value.string) ∧ Below W.heap.size W w' := by
  obtain ⟨ao', c', h, hc⟩ := hT
  simp only [Value.slice.injEq] at h
  obtain ⟨rfl, rfl, rfl⟩ := h
  cases ao with
  | none =>
    have h0 := hz rfl
    subst h0
    have hrl : rl = [] := List.length_eq_zero_iff.1 (by omega)
    subst hrl
    exact (Try.slices_Clone_string_nil 0 0 W).mono fun e w' ⟨h1, h2⟩ => ⟨_, h1, World.ownsRow_nil _ _ _ _, by rw [h2]; exact Below.refl _ _⟩
  | some ad =>
    by_cases hn : rl.length = 0
    · have hrl : rl = [] := List.length_eq_zero_iff.1 hn
      subst hrl
      exact (Try.slices_Clone_string_zero ad c W).mono fun e w' ⟨v', h1, h2, h3, h4⟩ => ⟨v', h1, h2, h4⟩
    · obtain ⟨b, off, hh, hb, hcc⟩ := hc (by omega)
      simp only [Option.some.injEq] at hh
      subst hh
      refine (Try.slices_Clone_string b off rl.length c rl W (Nat.le_refl _) (by omega) (fun j hj => by rw [hcc j hj]; simp [hj])).mono fun e w' ⟨v', h1, h2, h3, h4⟩ => ⟨v', h1, ?_, h4⟩
      rwa [List.take_of_length_le (Nat.le_refl _)] at h2

/-- The state ahead of Read's last steps: the names are ahead. -/
def NI (w : World) (X : Nat) (l : List ByteArray) (v : Value) (wx : World) : Prop :=
  ∃ (a : Av) (rl : List ByteArray), (∃ ao k c, v = .slice ao k c ∧ k ≤ c ∧ (ao = none → c = 0)) ∧ Tx wx v rl ∧ XS wx X X a ∧ a.nam = [] ∧ rl.length ≤ 65536 ∧ readL l = (some { a with nam := rl }, 0, 0) ∧ Below w.heap.size w wx ∧
    wx.heap[w.heap.size]? = some (.cells #[.bool false, .bool false, .bool false, .bool false, .string ⟨#[]⟩, .slice none 0 0, .slice none 0 0] 27 (0, 0))

/-- The state at the head of Read's loop. -/
def RI (W2 : World) (X : Nat) (l : List ByteArray) (R : Sum Nat (Nat × Av)) (i : Nat) (a : Av) (wr : World) : Prop :=
  XS wr X X a ∧ a.nam = [] ∧ a.scr.length ≤ i ∧ i ≤ l.length ∧ FrT TX X W2 wr ∧ readW l i a = R

set_option maxRecDepth 100000 in
set_option maxHeartbeats 12800000 in
theorem read_core (ao : Option Addr) (cap : Nat) (l : List ByteArray) (w : World) (HT : Hid (Tx w (.slice ao l.length cap) l)) (hcap : l.length ≤ cap) (hnz : ao = none → cap = 0) (HSZ : Hid (∀ s ∈ l, s.size ≤ 9223372036854775807)) (hle : l.length ≤ 65536) :
    Calls Try.prog 21 #[.slice ao l.length cap] w (ReadPost w l) := by
  have z1 : ¬ (65536 : Int) < (l.length : Int) := by omega
  have HR0 : Hid (readL l = endW l (readW l 0 zeroAv)) := by show readL l = _; unfold readL; rw [if_neg (by omega)]
  obtain ⟨R, hR⟩ : ∃ R, readW l 0 zeroAv = R := ⟨_, rfl⟩
  rw [hR] at HR0
  have hb0 := bl_to (bl_alloc w (.cells #[.bool false, .bool false, .bool false, .bool false, .string ⟨#[]⟩, .slice none 0 0, .slice none 0 0] 27)) (bl_alloc _ (.cells #[.bool false, .bool false, .bool false, .bool false, .string ⟨#[]⟩, .slice none 0 0, .slice none 0 0] 27))
  have hz0 : ((w.alloc (.cells #[.bool false, .bool false, .bool false, .bool false, .string ⟨#[]⟩, .slice none 0 0, .slice none 0 0] 27)).alloc (.cells #[.bool false, .bool false, .bool false, .bool false, .string ⟨#[]⟩, .slice none 0 0, .slice none 0 0] 27)).heap[w.heap.size]? = some (.cells #[.bool false, .bool false, .bool false, .bool false, .string ⟨#[]⟩, .slice none 0 0, .slice none 0 0] 27 (0, 0)) := by
    rw [heap_alloc_old _ _ (by simp)]; exact heap_alloc_new w _
  have hx0 : ((w.alloc (.cells #[.bool false, .bool false, .bool false, .bool false, .string ⟨#[]⟩, .slice none 0 0, .slice none 0 0] 27)).alloc (.cells #[.bool false, .bool false, .bool false, .bool false, .string ⟨#[]⟩, .slice none 0 0, .slice none 0 0] 27)).heap[w.heap.size + 1]? = some (.cells (zeroAv.cells (.slice none 0 0) (.slice none 0 0)) 27 (0, 0)) := by
    exact heap_alloc_at _ _ _ (by simp)
  have HB := Lib.hid hb0
  have HZ := Lib.hid hz0
  have HX0 := Lib.hid hx0
  clear hb0 hz0 hx0
  go_enter Try.func21, Try.ntmps21
  go_upto_block 0 with (fail)
  generalize ((w.alloc (.cells #[.bool false, .bool false, .bool false, .bool false, .string ⟨#[]⟩, .slice none 0 0, .slice none 0 0] 27)).alloc (.cells #[.bool false, .bool false, .bool false, .bool false, .string ⟨#[]⟩, .slice none 0 0, .slice none 0 0] 27)) = W2 at *
  have hW2 : w.heap.size + 1 ≤ W2.heap.size := Nat.le_of_lt (lt_of_block HX0.out)
  have HI : Hid (RI W2 (w.heap.size + 1) l R 0 zeroAv W2) := ⟨⟨_, HX0.out, World.ownsRow_nil _ _ _ _, Nat.le_refl _⟩, rfl, Nat.le_refl _, Nat.zero_le _, FrT.refl _ _ _, hR⟩
  clear hR
  go_cut [6] (fun s6 wx => ∃ (i : Nat) (a : Av), s6 = .int .i64 i ∧ XS wx (w.heap.size + 1) (w.heap.size + 1) a ∧ a.nam = [] ∧ a.scr.length ≤ i + 1 ∧ i ≤ l.length ∧ FrT TX (w.heap.size + 1) W2 wx ∧ R = .inr (i, a))
  case first =>
    go_wp2_with fail
    go_loopw [6] (fun s6 wr => ∃ (i : Nat) (a : Av), s6 = .int .i64 i ∧ RI W2 (w.heap.size + 1) l R i a wr) (fun s6 _ => l.length - (intOf s6).toNat)
    case atStart => exact ⟨0, _, rfl, HI.out⟩
    case round =>
      clear HI
      obtain ⟨i, a, rfl, hx, hn, hsl, hi, hf, hR⟩ := hrel
      have HX := Lib.hid hx
      have HF := Lib.hid hf
      have HNM := Lib.hid hn
      have hwf := hf.below
      clear hx hf hn
      by_cases hlt : i < l.length
      · rw [readW, dif_pos hlt] at hR
        have hbw := HB.out.trans (hwf.mono (by omega))
        obtain ⟨_, _, e1, hc1⟩ := HT.out
        simp only [Value.slice.injEq, true_and] at e1
        obtain ⟨rfl, rfl⟩ := e1
        obtain ⟨b, off, rfl, hbl, hc⟩ := hc1 (by omega)
        have d0 := (hbw.cell (p := ⟨b, off + i, none⟩) hbl).trans (hc i hlt)
        have hsz := HSZ.out _ (List.getElem_mem hlt)
        obtain ⟨t, ht⟩ : ∃ t, l[i] = t := ⟨_, rfl⟩
        rw [ht] at hR d0 hsz
        have HRR := Lib.hid hR
        have HZ1 : Hid (wr.heap[w.heap.size]? = some (.cells #[.bool false, .bool false, .bool false, .bool false, .string ⟨#[]⟩, .slice none 0 0, .slice none 0 0] 27 (0, 0))) := (hwf.block _ (by omega)).trans HZ.out
        have HBW := Lib.hid hbw
        have h0 : (0 : Int) ≤ (i : Int) := by omega
        have h1 : (i : Int) < (l.length : Int) := by omega
        clear hc1 hc hR ht hbw hwf hnz
        by_cases k0 : t = ⟨#[45, 45]⟩
        · subst k0
          have HE : Hid (R = .inr (i + 1, a)) := HRR.out.symm.trans (if_pos (by decide))
          go_wp2_with fail
          go_meet
          case rel => exact ⟨i + 1, a, by go_num, HX.out, HNM.out, by omega, by omega, HF.out, HE.out⟩
        · obtain ⟨n0, n0'⟩ := toList_ne k0
          have n0a : (t.toList == [45, 45]) = false := by rw [← d45]; exact n0
          have n0b : ([45, 45] == t.toList) = false := by rw [Bool.beq_comm]; exact n0a
          by_cases k1 : t = ⟨#[45]⟩
          · subst k1
            have HE : Hid (R = .inr (i, a)) := HRR.out.symm.trans ((if_neg (by decide)).trans (if_pos (by decide)))
            clear n0 n0' n0a n0b
            go_wp2_with fail
            go_meet
            case rel => exact ⟨i, a, rfl, HX.out, HNM.out, by omega, by omega, HF.out, HE.out⟩
          · obtain ⟨n1, n1'⟩ := toList_ne k1
            have n1a : (t.toList == [45]) = false := by rw [← d4]; exact n1
            have n1b : ([45] == t.toList) = false := by rw [Bool.beq_comm]; exact n1a
            obtain ⟨p1, hp1⟩ : ∃ p, Lib.hasPrefix t.data.toList [45] = p := ⟨_, rfl⟩
            have HP1 := Lib.hid hp1
            clear n0 n0' n1 n1'
            cases p1
            · have HE : Hid (R = .inr (i, a)) := by
                have hk : kind t = 1 := by unfold kind; rw [if_neg k0, if_neg k1, if_pos hp1]
                have := HRR.out
                rw [hk] at this
                exact this.symm
              clear k0 k1 hp1
              go_wp2_with (go_at_call 32; refine (Try.strings_HasPrefix _ _ _).mono ?_; rintro e w5 ⟨rfl, hw⟩; rw [hw, HP1.out])
              go_meet
              case rel => exact ⟨i, a, rfl, HX.out, HNM.out, by omega, by omega, HF.out, HE.out⟩
            · obtain ⟨p2, hp2⟩ : ∃ p, Lib.hasPrefix t.data.toList [45, 45] = p := ⟨_, rfl⟩
              have HP2 := Lib.hid hp2
              cases p2
              · have hk : kind t = 3 := by unfold kind; rw [if_neg k0, if_neg k1, if_neg (by rw [hp1]; simp), if_neg (by rw [hp2]; simp)]
                obtain ⟨r, hr⟩ : ∃ r, shortF (tail1 t) (l.drop (i + 1)) (tail1 t).size a = r := ⟨_, rfl⟩
                have HE : Hid ((if r.2.1 = false then Sum.inl i else if r.1 < 0 then .inl l.length else readW l (i + 1 + r.1.toNat) r.2.2) = R) := by
                  have := HRR.out
                  rw [hk, hr] at this
                  exact this
                have hts : 1 ≤ t.size := by
                  have : [45].length ≤ t.data.toList.length := (List.isPrefixOf_iff_prefix.1 hp1).length_le
                  simpa using this
                have hsc := shortF_scr (tail1 t) (l.drop (i + 1)) (tail1 t).size a
                rw [hr] at hsc
                have HRS := Lib.hid hr
                have ht1 : (tail1 t).size ≤ 9223372036854775806 := by unfold tail1; rw [ByteArray.size_extract]; omega
                clear k0 k1 hp1 hp2 hk hr
                have g1 : (0 : Int) ≤ (i : Int) + 1 := by omega
                have g2 : (i : Int) + 1 ≤ (l.length : Int) := by omega
                have g3 : ((i : Int) + 1).toNat = i + 1 := by omega
                have gw := wrap_in ((i : Int) + 1) (by omega) (by omega)
                have g4 : (1 : Int) ≤ (t.size : Int) := by omega
                go_wp2_with (first
                  | (go_at_call 32; refine (Try.strings_HasPrefix _ _ _).mono ?_; rintro e w5 ⟨rfl, hw⟩; rw [hw, HP1.out])
                  | (go_at_call 33; refine (Try.strings_CutPrefix _ _ _).mono ?_; rintro e w5 ⟨rfl, hw⟩; rw [hw, HP2.out]))
                have hdl : (l.drop (i + 1)).length = l.length - (i + 1) := by rw [List.length_drop]
                have HTX : Hid (∀ ao' c', (ao' = (some (⟨b, off, none⟩ : Addr)).map (·.add (i + 1)) ∨ l.length - (i + 1) = 0) → Calls Try.prog 35 #[.pointer (some ⟨w.heap.size + 1, 0, none⟩), .string (t.extract 1 t.size), .slice ao' (l.length - (i + 1)) c'] wr.drew (ShortPost wr.drew (w.heap.size + 1) (w.heap.size + 1) r)) := fun ao' c' ha => by
                  have hm : l.length = i + 1 + (l.length - (i + 1)) := by omega
                  have hcall := short_any (w.heap.size + 1) (w.heap.size + 1) a (tail1 t) (.slice ao' (l.length - (i + 1)) c') (l.drop (i + 1)) wr.drew (HX.out.to (Below.refl _ _).drew) (by omega) ht1 (fun W hW => cutTx hm (by rw [← hm]; exact HT.out.to ((HBW.out.drew).trans (hW.mono (by omega)))) ao' c' ha) (by rw [hdl]; omega)
                  rw [HRS.out] at hcall
                  exact hcall
                clear hdl
                rcases (show cap = i + 1 ∨ (¬ cap = i + 1 ∧ ¬ i + 1 = cap) by omega) with hcp | ⟨hcp, hcp2⟩
                · have HC := Lib.hid (HTX.out (some ⟨b, off, none⟩) (cap - (i + 1)) (.inr (by omega)))
                  replace hcp := eq_true hcp
                  clear HTX d0
                  go_region_held3 (fun _ => True) (trivial)
                    (first | (go_at_call 35; refine HC.out.mono ?_; rintro e w5 ⟨rfl, hx5, hf5⟩))
                  all_goals
                    have HX5 := Lib.hid hx5
                    have HF5 := Lib.hid ((HF.out.trans (FrT.ofBelow TX (Below.refl _ _).drew HX.out.lt)).trans hf5)
                    have hz5 := (hf5.below.block w.heap.size (by omega)).trans HZ1.out
                    have HZ5 := Lib.hid hz5
                    have HBW5 := Lib.hid ((HBW.out.drew).trans (hf5.below.mono (by omega)))
                    clear hx5 hf5 hz5 hcp HC
                    obtain ⟨rn, rok, ra⟩ := r
                    simp only at HE hsc HX5
                    cases rok
                    · have HRD : Hid (readL l = (none, 260, i)) := by show readL l = _; rw [HR0.out, ← HE.out]; rfl
                      obtain ⟨y0, f0⟩ := blk_at HZ5.out 0 (v := .bool false) rfl
                      obtain ⟨y1, f1⟩ := blk_at HZ5.out 1 (v := .bool false) rfl
                      obtain ⟨y2, f2⟩ := blk_at HZ5.out 2 (v := .bool false) rfl
                      obtain ⟨y3, f3⟩ := blk_at HZ5.out 3 (v := .bool false) rfl
                      obtain ⟨y4, f4⟩ := blk_at HZ5.out 4 (v := .string ⟨#[]⟩) rfl
                      obtain ⟨y5, f5⟩ := blk_at HZ5.out 5 (v := .slice none 0 0) rfl
                      obtain ⟨y6, f6⟩ := blk_at HZ5.out 6 (v := .slice none 0 0) rfl
                      have HS7 := Lib.hid (seven_below (b := w.heap.size) HBW5.out (Nat.le_refl _))
                      go_wp2_with fail
                      refine bodyPost_ret (v := .tuple #[.agg #[.bool false, .bool false, .bool false, .bool false, .string ⟨#[]⟩, .slice none 0 0, .slice none 0 0], .int .i64 260, .int .i64 i]) (by simp [results, Try.results21, go_sem, y0, y1, y2, y3, y4, y5, y6]) rfl ?_
                      exact read_fail HRD.out HS7.out
                    · by_cases hneg : rn < 0
                      · have HRD : Hid (readL l = (none, 260, l.length)) := by
                          show readL l = _
                          have h2 := HE.out
                          rw [if_neg (by simp), if_pos hneg] at h2
                          rw [HR0.out, ← h2]; rfl
                        obtain ⟨y0, f0⟩ := blk_at HZ5.out 0 (v := .bool false) rfl
                        obtain ⟨y1, f1⟩ := blk_at HZ5.out 1 (v := .bool false) rfl
                        obtain ⟨y2, f2⟩ := blk_at HZ5.out 2 (v := .bool false) rfl
                        obtain ⟨y3, f3⟩ := blk_at HZ5.out 3 (v := .bool false) rfl
                        obtain ⟨y4, f4⟩ := blk_at HZ5.out 4 (v := .string ⟨#[]⟩) rfl
                        obtain ⟨y5, f5⟩ := blk_at HZ5.out 5 (v := .slice none 0 0) rfl
                        obtain ⟨y6, f6⟩ := blk_at HZ5.out 6 (v := .slice none 0 0) rfl
                        have HS7 := Lib.hid (seven_below (b := w.heap.size) HBW5.out (Nat.le_refl _))
                        go_wp2_with fail
                        refine bodyPost_ret (v := .tuple #[.agg #[.bool false, .bool false, .bool false, .bool false, .string ⟨#[]⟩, .slice none 0 0, .slice none 0 0], .int .i64 260, .int .i64 l.length]) (by simp [results, Try.results21, go_sem, y0, y1, y2, y3, y4, y5, y6]) rfl ?_
                        exact read_fail HRD.out HS7.out
                      · have hrn : (rn = 0 ∧ i + 1 ≤ l.length) ∨ (rn = 1 ∧ i + 2 ≤ l.length) := by
                          rcases hsc.2.2.1 with h | ⟨h, hne⟩
                          · left; omega
                          · right
                            refine ⟨h, ?_⟩
                            have : l.drop (i + 1) ≠ [] := hne
                            have h3 : (l.drop (i + 1)).length ≠ 0 := fun e => this (List.length_eq_zero_iff.1 e)
                            rw [List.length_drop] at h3
                            omega
                        have HE2 : Hid (readW l (i + 1 + rn.toNat) ra = R) := by
                          have h2 := HE.out
                          rw [if_neg (by simp), if_neg hneg] at h2
                          exact h2
                        have hscl : ra.scr.length ≤ i + 1 := by have := hsc.1; omega
                        have HNA : Hid (ra.nam = []) := hsc.2.1.trans HNM.out
                        clear hsc hneg
                        rcases hrn with ⟨rfl, hle2⟩ | ⟨rfl, hle2⟩
                        · have HN5 : Hid (RI W2 (w.heap.size + 1) l R (i + 1) ra w5) := ⟨HX5.out, HNA.out, by omega, by omega, HF5.out, HE2.out⟩
                          go_wp2_with fail
                          go_roundw
                          case rel => exact ⟨i + 1, ra, by go_num, HN5.out⟩
                          case measure => simp [intOf]; omega
                        · have HN5 : Hid (RI W2 (w.heap.size + 1) l R (i + 2) ra w5) := ⟨HX5.out, HNA.out, by omega, by omega, HF5.out, HE2.out⟩
                          have gw2 := wrap_in ((i : Int) + 1 + 1) (by omega) (by omega)
                          go_wp2_with fail
                          go_roundw
                          case rel => exact ⟨i + 2, ra, by go_num, HN5.out⟩
                          case measure => simp [intOf]; omega
                · have HC := Lib.hid (HTX.out (some ⟨b, off + (i + 1), none⟩) (cap - (i + 1)) (.inl (by simp [Addr.add])))
                  clear HTX d0
                  go_region_held3 (fun _ => True) (trivial)
                    (first | (go_at_call 35; refine HC.out.mono ?_; rintro e w5 ⟨rfl, hx5, hf5⟩))
                  all_goals
                    have HX5 := Lib.hid hx5
                    have HF5 := Lib.hid ((HF.out.trans (FrT.ofBelow TX (Below.refl _ _).drew HX.out.lt)).trans hf5)
                    have hz5 := (hf5.below.block w.heap.size (by omega)).trans HZ1.out
                    have HZ5 := Lib.hid hz5
                    have HBW5 := Lib.hid ((HBW.out.drew).trans (hf5.below.mono (by omega)))
                    clear hx5 hf5 hz5 hcp hcp2 HC
                    obtain ⟨rn, rok, ra⟩ := r
                    simp only at HE hsc HX5
                    cases rok
                    · have HRD : Hid (readL l = (none, 260, i)) := by show readL l = _; rw [HR0.out, ← HE.out]; rfl
                      obtain ⟨y0, f0⟩ := blk_at HZ5.out 0 (v := .bool false) rfl
                      obtain ⟨y1, f1⟩ := blk_at HZ5.out 1 (v := .bool false) rfl
                      obtain ⟨y2, f2⟩ := blk_at HZ5.out 2 (v := .bool false) rfl
                      obtain ⟨y3, f3⟩ := blk_at HZ5.out 3 (v := .bool false) rfl
                      obtain ⟨y4, f4⟩ := blk_at HZ5.out 4 (v := .string ⟨#[]⟩) rfl
                      obtain ⟨y5, f5⟩ := blk_at HZ5.out 5 (v := .slice none 0 0) rfl
                      obtain ⟨y6, f6⟩ := blk_at HZ5.out 6 (v := .slice none 0 0) rfl
                      have HS7 := Lib.hid (seven_below (b := w.heap.size) HBW5.out (Nat.le_refl _))
                      go_wp2_with fail
                      refine bodyPost_ret (v := .tuple #[.agg #[.bool false, .bool false, .bool false, .bool false, .string ⟨#[]⟩, .slice none 0 0, .slice none 0 0], .int .i64 260, .int .i64 i]) (by simp [results, Try.results21, go_sem, y0, y1, y2, y3, y4, y5, y6]) rfl ?_
                      exact read_fail HRD.out HS7.out
                    · by_cases hneg : rn < 0
                      · have HRD : Hid (readL l = (none, 260, l.length)) := by
                          show readL l = _
                          have h2 := HE.out
                          rw [if_neg (by simp), if_pos hneg] at h2
                          rw [HR0.out, ← h2]; rfl
                        obtain ⟨y0, f0⟩ := blk_at HZ5.out 0 (v := .bool false) rfl
                        obtain ⟨y1, f1⟩ := blk_at HZ5.out 1 (v := .bool false) rfl
                        obtain ⟨y2, f2⟩ := blk_at HZ5.out 2 (v := .bool false) rfl
                        obtain ⟨y3, f3⟩ := blk_at HZ5.out 3 (v := .bool false) rfl
                        obtain ⟨y4, f4⟩ := blk_at HZ5.out 4 (v := .string ⟨#[]⟩) rfl
                        obtain ⟨y5, f5⟩ := blk_at HZ5.out 5 (v := .slice none 0 0) rfl
                        obtain ⟨y6, f6⟩ := blk_at HZ5.out 6 (v := .slice none 0 0) rfl
                        have HS7 := Lib.hid (seven_below (b := w.heap.size) HBW5.out (Nat.le_refl _))
                        go_wp2_with fail
                        refine bodyPost_ret (v := .tuple #[.agg #[.bool false, .bool false, .bool false, .bool false, .string ⟨#[]⟩, .slice none 0 0, .slice none 0 0], .int .i64 260, .int .i64 l.length]) (by simp [results, Try.results21, go_sem, y0, y1, y2, y3, y4, y5, y6]) rfl ?_
                        exact read_fail HRD.out HS7.out
                      · have hrn : (rn = 0 ∧ i + 1 ≤ l.length) ∨ (rn = 1 ∧ i + 2 ≤ l.length) := by
                          rcases hsc.2.2.1 with h | ⟨h, hne⟩
                          · left; omega
                          · right
                            refine ⟨h, ?_⟩
                            have : l.drop (i + 1) ≠ [] := hne
                            have h3 : (l.drop (i + 1)).length ≠ 0 := fun e => this (List.length_eq_zero_iff.1 e)
                            rw [List.length_drop] at h3
                            omega
                        have HE2 : Hid (readW l (i + 1 + rn.toNat) ra = R) := by
                          have h2 := HE.out
                          rw [if_neg (by simp), if_neg hneg] at h2
                          exact h2
                        have hscl : ra.scr.length ≤ i + 1 := by have := hsc.1; omega
                        have HNA : Hid (ra.nam = []) := hsc.2.1.trans HNM.out
                        clear hsc hneg
                        rcases hrn with ⟨rfl, hle2⟩ | ⟨rfl, hle2⟩
                        · have HN5 : Hid (RI W2 (w.heap.size + 1) l R (i + 1) ra w5) := ⟨HX5.out, HNA.out, by omega, by omega, HF5.out, HE2.out⟩
                          go_wp2_with fail
                          go_roundw
                          case rel => exact ⟨i + 1, ra, by go_num, HN5.out⟩
                          case measure => simp [intOf]; omega
                        · have HN5 : Hid (RI W2 (w.heap.size + 1) l R (i + 2) ra w5) := ⟨HX5.out, HNA.out, by omega, by omega, HF5.out, HE2.out⟩
                          have gw2 := wrap_in ((i : Int) + 1 + 1) (by omega) (by omega)
                          go_wp2_with fail
                          go_roundw
                          case rel => exact ⟨i + 2, ra, by go_num, HN5.out⟩
                          case measure => simp [intOf]; omega
              · have hk : kind t = 2 := by unfold kind; rw [if_neg k0, if_neg k1, if_neg (by rw [hp1]; simp), if_pos hp2]
                have HE : Hid ((match longL a (tail2 t) with | none => Sum.inl i | some a' => readW l (i + 1) a') = R) := by
                  have := HRR.out
                  rw [hk] at this
                  exact this
                have hsz2 : (tail2 t).size ≤ 9223372036854775806 := by have := tail2_lt t hp2; omega
                clear k0 k1 hp1 hp2 hk
                go_wp2_with (first
                  | (go_at_call 32; refine (Try.strings_HasPrefix _ _ _).mono ?_; rintro e w5 ⟨rfl, hw⟩; rw [hw, HP1.out])
                  | (go_at_call 33; refine (Try.strings_CutPrefix _ _ _).mono ?_; rintro e w5 ⟨rfl, hw⟩; rw [hw, HP2.out]))
                refine (long_any (w.heap.size + 1) (w.heap.size + 1) a (tail2 t) _ HX.out (by omega) hsz2).mono ?_
                rintro e w5 ⟨hno, hyes⟩
                obtain ⟨o, ho⟩ : ∃ o, longL a (tail2 t) = o := ⟨_, rfl⟩
                rw [ho] at hno hyes HE
                cases o with
                | none =>
                  obtain ⟨rfl, hb5⟩ := hno rfl
                  have HRD : Hid (readL l = (none, 260, i)) := by show readL l = _; rw [HR0.out, ← HE.out]; rfl
                  have hz5 := (hb5.block _ (lt_of_block HZ1.out)).trans HZ1.out
                  obtain ⟨y0, f0⟩ := blk_at hz5 0 (v := .bool false) rfl
                  obtain ⟨y1, f1⟩ := blk_at hz5 1 (v := .bool false) rfl
                  obtain ⟨y2, f2⟩ := blk_at hz5 2 (v := .bool false) rfl
                  obtain ⟨y3, f3⟩ := blk_at hz5 3 (v := .bool false) rfl
                  obtain ⟨y4, f4⟩ := blk_at hz5 4 (v := .string ⟨#[]⟩) rfl
                  obtain ⟨y5, f5⟩ := blk_at hz5 5 (v := .slice none 0 0) rfl
                  obtain ⟨y6, f6⟩ := blk_at hz5 6 (v := .slice none 0 0) rfl
                  have HS7 := Lib.hid (seven_below (b := w.heap.size) (bl_to HBW.out hb5) (Nat.le_refl _))
                  clear hno hyes hb5 hz5 ho
                  go_wp2_with fail
                  refine bodyPost_ret (v := .tuple #[.agg #[.bool false, .bool false, .bool false, .bool false, .string ⟨#[]⟩, .slice none 0 0, .slice none 0 0], .int .i64 260, .int .i64 i]) (by simp [results, Try.results21, go_sem, y0, y1, y2, y3, y4, y5, y6]) rfl ?_
                  exact read_fail HRD.out HS7.out
                | some a' =>
                  obtain ⟨rfl, hx5, hf5⟩ := hyes a' rfl
                  have hsc := longL_scr ho
                  have HN5 : Hid (RI W2 (w.heap.size + 1) l R (i + 1) a' w5) := ⟨hx5, hsc.2.trans HNM.out, by omega, by omega, HF.out.trans hf5, HE.out⟩
                  clear hno hyes hx5 hf5 ho hsc
                  go_wp2_with fail
                  go_roundw
                  case rel => exact ⟨i + 1, a', by go_num, HN5.out⟩
                  case measure => simp [intOf]; omega
      · have HE : Hid (R = .inr (i, a)) := by rw [readW, dif_neg hlt] at hR; exact hR.symm
        clear hR
        go_wp2_with fail
        go_meet
        case rel => exact ⟨i, a, rfl, HX.out, HNM.out, by omega, by omega, HF.out, HE.out⟩
  case rest =>
    obtain ⟨i, a, rfl, hx, hn, hsl, hi, hf, hRi⟩ := hcut
    clear HI
    have HX := Lib.hid hx
    have HF := Lib.hid hf
    have HNM := Lib.hid hn
    have HRI := Lib.hid hRi
    have hwf := hf.below
    have hbw := HB.out.trans (hwf.mono (by omega))
    have HZ1 : Hid (wc.heap[w.heap.size]? = some (.cells #[.bool false, .bool false, .bool false, .bool false, .string ⟨#[]⟩, .slice none 0 0, .slice none 0 0] 27 (0, 0))) := (hwf.block _ (by omega)).trans HZ.out
    have HBW := Lib.hid hbw
    have h0 : (0 : Int) ≤ (i : Int) := by omega
    have h1 : (i : Int) ≤ (l.length : Int) := by omega
    clear hx hn hf hRi hbw hwf
    obtain ⟨k, HK⟩ : ∃ k, Hid (l.length - i = k) := ⟨_, rfl⟩
    go_upto_region 21 with (fail)
    go_cut [12] (fun s12 wx => ∃ ao1 c1, s12 = .slice ao1 k c1 ∧ k ≤ c1 ∧ (ao1 = none → c1 = 0) ∧ wx = wc ∧ Hid (∀ W, Tx W (.slice ao l.length cap) l → Tx W (.slice ao1 k c1) (l.drop i)))
    case first =>
      have hm : l.length = i + k := by have := HK.out; omega
      have HM := Lib.hid hm
      rcases (show cap = i ∨ (¬ cap = i ∧ ¬ i = cap) by omega) with hcp | ⟨hcp, hcp2⟩
      · have hk0 : k = 0 := by omega
        have HC : Hid (∀ W, Tx W (.slice ao l.length cap) l → Tx W (.slice ao k (cap - i)) (l.drop i)) := fun W hT => cutTx hm (by rw [← hm]; exact hT) _ _ (.inr hk0)
        have hkc : k ≤ cap - i := by omega
        have hz2 : ao = none → cap - i = 0 := fun e => by rw [hnz e]; omega
        replace hcp := eq_true hcp
        clear hm hk0
        go_wp2_with fail
        rw [HK.out]
        go_meet
        case rel => exact ⟨_, _, rfl, hkc, hz2, rfl, HC⟩
      · have HC : Hid (∀ W, Tx W (.slice ao l.length cap) l → Tx W (.slice (ao.map (·.add i)) k (cap - i)) (l.drop i)) := fun W hT => cutTx hm (by rw [← hm]; exact hT) _ _ (.inl rfl)
        have hkc : k ≤ cap - i := by omega
        have hz2 : ao.map (·.add i) = none → cap - i = 0 := fun e => by
          cases ao with
          | none => rw [hnz rfl]; omega
          | some x => simp at e
        clear hm
        go_wp2_with fail
        rw [HK.out]
        go_meet
        case rel => exact ⟨_, _, rfl, hkc, hz2, rfl, HC⟩
    case rest =>
      obtain ⟨ao1, c1, rfl, hkc, hz1, rfl, HC1⟩ := hcut
      obtain ⟨sv, x1, x2, x3⟩ := HX.out
      obtain ⟨sa, sc, rfl⟩ := row_slice x2
      have HX1 := Lib.hid x1
      have HX2 := Lib.hid x2
      obtain ⟨y5, f5⟩ := blk_at x1 5 (v := .slice sa a.scr.length sc) rfl
      have hTx := HC1.out _ (HT.out.to HBW.out)
      have HTX := Lib.hid hTx
      have hdl : (l.drop i).length = k := by rw [List.length_drop]; exact HK.out
      have hRL : readL l = endW l (.inr (i, a)) := by rw [HR0.out, HRI.out]
      have HRL := Lib.hid hRL
      have HDL := Lib.hid hdl
      have hk65 : k ≤ 65536 := by rw [← hdl, List.length_drop]; omega
      clear x1 x2 hTx hdl hRL hnz HZ HX0
      go_upto_if 80 with (fail)
      go_cut [12] (fun s12 wx => NI w (w.heap.size + 1) l s12 wx)
      case first =>
        cases hsc : a.scr with
        | cons p r =>
          have hne : (((p :: r).length : Int) == 0) = false := by simp; omega
          have HRD : Hid (readL l = (some { a with nam := l.drop i }, 0, 0)) := by
            show readL l = _
            rw [HRL.out]
            show (if a.scr = [] then _ else _) = _
            rw [if_neg (by rw [hsc]; simp)]
          rw [hsc] at y5
          have HN : Hid (NI w (w.heap.size + 1) l (.slice ao1 k c1) wc) := ⟨a, l.drop i, ⟨_, _, _, rfl, hkc, hz1⟩, HTX.out, HX.out, HNM.out, by rw [HDL.out]; exact hk65, HRD.out, HBW.out, HZ1.out⟩
          clear hsc
          go_wp2_with fail
          go_meet
          case rel => exact HN.out
        | nil =>
          rw [hsc] at y5
          have HSC := Lib.hid hsc
          clear hsc
          cases hdr : l.drop i with
          | nil =>
            obtain rfl : k = 0 := by rw [← HDL.out, hdr]; rfl
            have HRD : Hid (readL l = (none, 260, l.length)) := by
              show readL l = _
              rw [HRL.out]
              show (if a.scr = [] then _ else _) = _
              rw [if_pos HSC.out, hdr]
            obtain ⟨t0, q0⟩ := blk_at HZ1.out 0 (v := .bool false) rfl
            obtain ⟨t1, q1⟩ := blk_at HZ1.out 1 (v := .bool false) rfl
            obtain ⟨t2, q2⟩ := blk_at HZ1.out 2 (v := .bool false) rfl
            obtain ⟨t3, q3⟩ := blk_at HZ1.out 3 (v := .bool false) rfl
            obtain ⟨t4, q4⟩ := blk_at HZ1.out 4 (v := .string ⟨#[]⟩) rfl
            obtain ⟨t5, q5⟩ := blk_at HZ1.out 5 (v := .slice none 0 0) rfl
            obtain ⟨t6, q6⟩ := blk_at HZ1.out 6 (v := .slice none 0 0) rfl
            have HS7 := Lib.hid (seven_below (b := w.heap.size) HBW.out (Nat.le_refl _))
            clear hdr
            go_wp2_with fail
            refine bodyPost_ret (v := .tuple #[.agg #[.bool false, .bool false, .bool false, .bool false, .string ⟨#[]⟩, .slice none 0 0, .slice none 0 0], .int .i64 260, .int .i64 l.length]) (by simp [results, Try.results21, go_sem, t0, t1, t2, t3, t4, t5, t6]) rfl ?_
            exact read_fail HRD.out HS7.out
          | cons t r =>
            obtain rfl : k = r.length + 1 := by rw [← HDL.out, hdr]; rfl
            have HRD : Hid (readL l = (some { a with scr := [(false, t)], nam := r }, 0, 0)) := by
              show readL l = _
              rw [HRL.out]
              show (if a.scr = [] then _ else _) = _
              rw [if_pos HSC.out, hdr]
            have hTx2 := HTX.out
            rw [hdr] at hTx2
            have HTx2 := Lib.hid hTx2
            obtain ⟨_, _, e1, hc1⟩ := hTx2
            simp only [Value.slice.injEq] at e1
            obtain ⟨rfl, hkill, rfl⟩ := e1
            clear hkill
            obtain ⟨b, off, rfl, hbl, hc⟩ := hc1 (by simp)
            have d0 : wc.cell? ⟨b, off, none⟩ = some (.string t) := hc 0 (by simp)
            have e5 : ∀ o, (wc.alloc o).cell? ⟨w.heap.size + 1, 5, none⟩ = some (.slice sa ([] : List Pc).length sc) := fun o => bl_cell (bl_alloc wc o) y5
            have hXlt : w.heap.size + 1 < wc.heap.size := lt_of_block HX1.out
            have g0 : (0 : Int) < (r.length : Int) + 1 := by omega
            have g1 : (1 : Int) ≤ (r.length : Int) + 1 := by omega
            have g2 : ((r.length : Int) + 1 == 0) = false := by simp; omega
            have HW5 : Hid (Below w.heap.size w ((wc.alloc (.cells #[.bool false, .string t] 45)).setCell ⟨w.heap.size + 1, 5, none⟩ (.slice (some ⟨wc.heap.size, 0, none⟩) 1 1)) ∧
                ((wc.alloc (.cells #[.bool false, .string t] 45)).setCell ⟨w.heap.size + 1, 5, none⟩ (.slice (some ⟨wc.heap.size, 0, none⟩) 1 1)).heap[w.heap.size]? = some (.cells #[.bool false, .bool false, .bool false, .bool false, .string ⟨#[]⟩, .slice none 0 0, .slice none 0 0] 27 (0, 0)) ∧
                XS ((wc.alloc (.cells #[.bool false, .string t] 45)).setCell ⟨w.heap.size + 1, 5, none⟩ (.slice (some ⟨wc.heap.size, 0, none⟩) 1 1)) (w.heap.size + 1) (w.heap.size + 1) { a with scr := [(false, t)] }) := by
              have hba := bl_alloc wc (.cells #[.bool false, .string t] 45)
              have hxa := (hba.block _ hXlt).trans HX1.out
              have hs : Fr (fun j => j = w.heap.size + 1) (wc.alloc (.cells #[.bool false, .string t] 45)) ((wc.alloc (.cells #[.bool false, .string t] 45)).setCell ⟨w.heap.size + 1, 5, none⟩ (.slice (some ⟨wc.heap.size, 0, none⟩) 1 1)) := (Fr.refl (fun j => j = w.heap.size + 1) _).setCell (p := ⟨w.heap.size + 1, 5, none⟩) rfl _
              have hnb := heap_alloc_new wc (.cells #[.bool false, .string t] 45)
              have hrow : (wc.alloc (.cells #[.bool false, .string t] 45)).ownsRow (w.heap.size + 1) 45 2 (.slice (some ⟨wc.heap.size, 0, none⟩) 1 1) 1 [.bool false, .string t] := ⟨rfl, .inr ⟨wc.heap.size, 1, _, rfl, by omega, hnb, Nat.le_refl _, by unfold maxLen; omega, rfl, rfl⟩⟩
              have q1 : Below w.heap.size w ((wc.alloc (.cells #[.bool false, .string t] 45)).setCell ⟨w.heap.size + 1, 5, none⟩ (.slice (some ⟨wc.heap.size, 0, none⟩) 1 1)) := (bl_to HBW.out hba).setCell (show w.heap.size ≤ w.heap.size + 1 by omega) _
              have q2 := (hs.block w.heap.size (by simp; omega) (fun e => by have e2 : w.heap.size = w.heap.size + 1 := e; omega)).trans ((hba.block w.heap.size (by omega)).trans HZ1.out)
              have q3 := row_fr hs hrow (fun g hg e => by have e2 : g = w.heap.size + 1 := e; simp [Value.ownBlock] at hg; omega)
              exact ⟨q1, q2, ⟨_, by rw [heap_setCell_same _ _ _ _ _ _ _ hxa]; rfl, q3, Nat.le_refl _⟩⟩
            have hr65 : r.length ≤ 65536 := by omega
            have HT5 : Hid (∀ ao' c', (ao' = (some (⟨b, off, none⟩ : Addr)).map (·.add 1) ∨ r.length = 0) → Tx ((wc.alloc (.cells #[.bool false, .string t] 45)).setCell ⟨w.heap.size + 1, 5, none⟩ (.slice (some ⟨wc.heap.size, 0, none⟩) 1 1)) (.slice ao' r.length c') r) := fun ao' c' ha => by
              have h1 := HC1.out _ (HT.out.to HW5.out.1)
              rw [hdr] at h1
              exact cutTx (l := t :: r) (i := 1) (m := r.length) (by simp; omega) (by show Tx _ (.slice _ (1 + r.length) _) _; rw [Nat.add_comm 1 r.length]; exact h1) ao' c' ha
            clear hc1 hc hdr
            rw [World.setCell_alloc_past (hn := hXlt)] at HW5 HT5
            rcases (show c1 = 1 ∨ (¬ c1 = 1 ∧ ¬ 1 = c1) by omega) with hcp | ⟨hcp, hcp2⟩
            · obtain rfl : r = [] := List.length_eq_zero_iff.1 (by omega)
              subst hcp
              have HF0 := Lib.hid (HT5.out (some ⟨b, off, none⟩) 0 (.inr rfl))
              clear HT5
              go_wp2_with fail
              go_meet
              case rel => exact ⟨{ a with scr := [(false, t)] }, [], ⟨_, _, _, rfl, by omega, by simp⟩, HF0.out, HW5.out.2.2, HNM.out, hr65, HRD.out, HW5.out.1, HW5.out.2.1⟩
            · have HF0 := Lib.hid (HT5.out (some ⟨b, off + 1, none⟩) (c1 - 1) (.inl (by simp [Addr.add])))
              clear HT5
              go_wp2_with fail
              go_meet
              case rel => exact ⟨{ a with scr := [(false, t)] }, r, ⟨_, _, _, rfl, by omega, by simp⟩, HF0.out, HW5.out.2.2, HNM.out, hr65, HRD.out, HW5.out.1, HW5.out.2.1⟩
      case rest =>
        obtain ⟨av, rl, ⟨ao2, k2, c2, rfl, hk2, hz2⟩, hT2, hX2, hn2, hrl, hRD, hB2, hZ2⟩ := hcut
        have HRD := Lib.hid hRD
        have HB2 := Lib.hid hB2
        have HCL := Lib.hid (clone_any ao2 k2 c2 rl _ hT2 hk2 hz2 hrl)
        have HX2' := Lib.hid hX2
        have HZ2 := Lib.hid hZ2
        clear hT2 hk2 hz2 hRD hB2 hX2 hZ2 hkc hz1 hk65 y5 f5
        go_wp2_with fail
        refine HCL.out.mono ?_
        rintro e w5 ⟨nv, rfl, hnr, hb5⟩
        obtain ⟨na, nc, rfl⟩ := row_slice hnr
        obtain ⟨sv2, x1, x2, x3⟩ := HX2'.out.to hb5
        obtain ⟨sa2, sc2, rfl⟩ := row_slice x2
        have hz5 := (hb5.block _ (lt_of_block HZ2.out)).trans HZ2.out
        have HB5 := Lib.hid (bl_to HB2.out hb5)
        obtain ⟨y6, f6⟩ := blk_at x1 6 (v := .slice none 0 0) rfl
        obtain ⟨w6, hw6⟩ : ∃ w6, w5.setCell ⟨w.heap.size + 1, 6, none⟩ (.slice na rl.length nc) = w6 := ⟨_, rfl⟩
        have hs : Fr (fun j => j = w.heap.size + 1) w5 w6 := by rw [← hw6]; exact (Fr.refl (fun j => j = w.heap.size + 1) w5).setCell (p := ⟨w.heap.size + 1, 6, none⟩) rfl _
        have hx6 : w6.heap[w.heap.size + 1]? = some (.cells (av.cells (.slice sa2 av.scr.length sc2) (.slice na rl.length nc)) 27 (0, 0)) := by rw [← hw6, heap_setCell_same _ _ _ _ _ _ _ x1]; rfl
        have hz6 := (hs.block w.heap.size (lt_of_block hz5) (fun e => by have e2 : w.heap.size = w.heap.size + 1 := e; omega)).trans hz5
        have r2 := row_fr hs x2 (fun g hg e => by have e2 : g = w.heap.size + 1 := e; subst e2; exact row_ne x2 x1 (by decide) hg)
        have r3 := row_fr hs hnr (fun g hg e => by have e2 : g = w.heap.size + 1 := e; subst e2; exact row_ne hnr x1 (by decide) hg)
        have hb6 : Below w.heap.size w w6 := by rw [← hw6]; exact HB5.out.setCell (show w.heap.size ≤ w.heap.size + 1 by omega) _
        obtain ⟨t0, q0⟩ := blk_at hz6 0 (v := .bool false) rfl
        obtain ⟨t1, q1⟩ := blk_at hz6 1 (v := .bool false) rfl
        obtain ⟨t2, q2⟩ := blk_at hz6 2 (v := .bool false) rfl
        obtain ⟨t3, q3⟩ := blk_at hz6 3 (v := .bool false) rfl
        obtain ⟨t4, q4⟩ := blk_at hz6 4 (v := .string ⟨#[]⟩) rfl
        obtain ⟨t5, q5⟩ := blk_at hz6 5 (v := .slice none 0 0) rfl
        obtain ⟨t6, q6⟩ := blk_at hz6 6 (v := .slice none 0 0) rfl
        obtain ⟨g0, g1, g2, g3, g4, g5, g6⟩ := cells7' hx6
        have R2 := Lib.hid r2
        have R3 := Lib.hid r3
        have HB6 := Lib.hid hb6
        have HZ6 := Lib.hid hz6
        have hwlt := HB2.out.size
        clear hs hx6 hz6 r2 r3 hb6 x1 x2 hz5 hnr hb5 HCL
        go_wp2_with fail
        refine bodyPost_ret (v := .tuple #[.agg #[.bool av.q, .bool av.e, .bool av.s, .bool av.i, .string av.suf, .slice sa2 av.scr.length sc2, .slice na rl.length nc], .int .i64 0, .int .i64 0]) (by simp [results, Try.results21, go_sem, t0, t1, t2, t3, t4, t5, t6]) rfl ?_
        have hf : Fr (fun j => j = w.heap.size) w6 _ := (((((((Fr.refl (fun j => j = w.heap.size) w6).setCell (p := ⟨w.heap.size, 0, none⟩) rfl (.bool av.q)).setCell (p := ⟨w.heap.size, 1, none⟩) rfl (.bool av.e)).setCell (p := ⟨w.heap.size, 2, none⟩) rfl (.bool av.s)).setCell (p := ⟨w.heap.size, 3, none⟩) rfl (.bool av.i)).setCell (p := ⟨w.heap.size, 4, none⟩) rfl (.string av.suf)).setCell (p := ⟨w.heap.size, 5, none⟩) rfl (.slice sa2 av.scr.length sc2)).setCell (p := ⟨w.heap.size, 6, none⟩) rfl (.slice na rl.length nc)
        have s2 := row_fr hf R2.out (fun g hg e => by have e2 : g = w.heap.size := e; subst e2; exact row_ne R2.out HZ6.out (by decide) hg)
        have s3 := row_fr hf R3.out (fun g hg e => by have e2 : g = w.heap.size := e; subst e2; exact row_ne R3.out HZ6.out (by decide) hg)
        refine ⟨.slice sa2 av.scr.length sc2, .slice na rl.length nc, by rw [HRD.out]; rfl, by rw [HRD.out]; exact row_base s2 (by omega), by rw [HRD.out]; exact row_base s3 hwlt, HB6.out.trans (hf.toBelow HB6.out.size (fun j _ e => by have e2 : j = w.heap.size := e; omega))⟩

theorem read_any (v : Value) (l : List ByteArray) (w : World) (h : Tz w v l) (hsz : ∀ s ∈ l, s.size ≤ 9223372036854775807) : Calls Try.prog 21 #[v] w (ReadPost w l) := by
  have HT := Lib.hid h.tx
  obtain ⟨ao, cap, rfl, hc⟩ := h.tx
  obtain ⟨hle, hnz⟩ := h.le ao l.length cap rfl
  by_cases hbig : 65536 < l.length
  · have z1 : (65536 : Int) < (l.length : Int) := by omega
    have HRD : Hid (readL l = (none, 3, 0)) := by show readL l = _; unfold readL; rw [if_pos hbig]
    have HB := Lib.hid (bl_alloc w (.cells #[.bool false, .bool false, .bool false, .bool false, .string ⟨#[]⟩, .slice none 0 0, .slice none 0 0] 27))
    clear hc hle hnz hbig h hsz
    go_enter Try.func21, Try.ntmps21
    go_wp2_with fail
    refine bodyPost_ret (v := .tuple #[.agg #[.bool false, .bool false, .bool false, .bool false, .string ⟨#[]⟩, .slice none 0 0, .slice none 0 0], .int .i64 3, .int .i64 0]) (by simp [results, Try.results21, go_sem]) rfl ?_
    exact read_fail (k := 0) HRD.out HB.out
  · exact read_core ao cap l w HT hle hnz hsz (by omega)
end Go.Proofs.Ytbigolappdlhcaa
