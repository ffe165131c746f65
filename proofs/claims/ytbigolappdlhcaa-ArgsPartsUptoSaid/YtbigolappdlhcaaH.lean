/- Same. -/
import Derived.Test.YtbigolappdlhcaaG
namespace Go.Proofs.Ytbigolappdlhcaa
set_option linter.unusedSimpArgs false
set_option linter.unusedVariables false
open Go.RowKit

def optB (a b : Av) : Bool := a.q == b.q && (a.e == b.e && (a.s == b.s && (a.i == b.i && decide (a.suf = b.suf))))
/-- Are they one? -/
def avB (a b : Av) : Bool := optB a b && (decide (a.scr = b.scr) && decide (a.nam = b.nam))

theorem avB_self (a : Av) : avB a a = true := by simp [avB, optB]

theorem optB_no {q e s i q' e' s' i' : Bool} {u u' : ByteArray} {c c' : List Pc} {n n' : List ByteArray} (h : optB ⟨q, e, s, i, u, c, n⟩ ⟨q', e', s', i', u', c', n'⟩ = false) :
    (q == q') = false ∨ (q = q' ∧ (e == e') = false) ∨ (q = q' ∧ e = e' ∧ (s == s') = false) ∨ (q = q' ∧ e = e' ∧ s = s' ∧ (i == i') = false) ∨ (q = q' ∧ e = e' ∧ s = s' ∧ i = i' ∧ (u.toList == u'.toList) = false) := by
  simp only [optB] at h
  by_cases h1 : q = q'
  · by_cases h2 : e = e'
    · by_cases h3 : s = s'
      · by_cases h4 : i = i'
        · subst h1 h2 h3 h4
          simp at h
          exact .inr (.inr (.inr (.inr ⟨rfl, rfl, rfl, rfl, (toList_ne h).1⟩)))
        · exact .inr (.inr (.inr (.inl ⟨h1, h2, h3, by simpa using h4⟩)))
      · exact .inr (.inr (.inl ⟨h1, h2, by simpa using h3⟩))
    · exact .inr (.inl ⟨h1, by simpa using h2⟩)
  · exact .inl (by simpa using h1)

set_option maxHeartbeats 3200000 in
theorem same_any (u v : Value) (a b : Av) (w : World) (hu : Ax w u a) (hv : Ax w v b) (h1 : a.scr.length ≤ 4611686018427387904) (h2 : a.nam.length ≤ 4611686018427387904) (h3 : b.scr.length ≤ 4611686018427387904) (h4 : b.nam.length ≤ 4611686018427387904) :
    Calls Try.prog 18 #[u, v] w fun e w' => e = .returned (.bool (avB a b)) ∧ Below w.heap.size w w' := by
  obtain ⟨sv, nv, rfl, hs, hn⟩ := hu
  obtain ⟨sv', nv', rfl, hs', hn'⟩ := hv
  obtain ⟨q, e, s, i, uu, c, n⟩ := a
  obtain ⟨q', e', s', i', uu', c', n'⟩ := b
  simp only at hs hn hs' hn' h1 h2 h3 h4
  rcases Bool.eq_false_or_eq_true (optB ⟨q, e, s, i, uu, c, n⟩ ⟨q', e', s', i', uu', c', n'⟩) with ho | ho
  · have HV : Hid (avB ⟨q, e, s, i, uu, c, n⟩ ⟨q', e', s', i', uu', c', n'⟩ = (decide (c = c') && decide (n = n'))) := by show _ = _; simp only [avB]; rw [ho]; rfl
    simp only [optB, Bool.and_eq_true, beq_iff_eq, decide_eq_true_eq] at ho
    obtain ⟨rfl, rfl, rfl, rfl, rfl⟩ := ho
    rw [HV.out]
    have HP := Lib.hid (fun W (hb : Below w.heap.size w W) => EqP_any sv sv' c c' W (hs.to hb) (hs'.to hb) h1 h3)
    have HT := Lib.hid (fun W (hb : Below w.heap.size w W) => EqT_any nv nv' n n' W (hn.to hb) (hn'.to hb) h2 h4)
    clear hs hn hs' hn' h1 h2 h3 h4
    have HW : Hid (∀ x y, Below w.heap.size w ((w.alloc x).alloc y)) := fun x y => bl_to (bl_alloc w _) (bl_alloc _ _)
    obtain ⟨d, hd⟩ : ∃ d, decide (c = c') = d := ⟨_, rfl⟩
    rw [hd] at HP ⊢
    clear hd HV
    go_enter Try.func18, Try.ntmps18
    go_wp2_with fail
    refine (HP.out _ (HW.out _ _)).mono ?_
    rintro e w1 ⟨rfl, hb1⟩
    have c1 := hb1.cell (p := ⟨w.heap.size, 6, none⟩) (by simp; omega)
    have c2 := hb1.cell (p := ⟨w.heap.size + 1, 6, none⟩) (by simp)
    have HB := Lib.hid (bl_to (HW.out _ _) hb1)
    clear hb1
    cases d
    · go_wp2_with fail
      go_ret
      exact ⟨rfl, HB.out⟩
    · go_wp2_with fail
      refine (HT.out _ HB.out).mono ?_
      rintro e w2 ⟨rfl, hb2⟩
      have HB2 := Lib.hid (bl_to HB.out hb2)
      clear hb2
      go_wp2_with fail
      go_ret
      exact ⟨rfl, HB2.out⟩
  · have HV : Hid (avB ⟨q, e, s, i, uu, c, n⟩ ⟨q', e', s', i', uu', c', n'⟩ = false) := by show _ = _; simp only [avB]; rw [ho]; rfl
    rw [HV.out]
    have hd := optB_no ho
    clear ho HV hs hn hs' hn' h1 h2 h3 h4
    rcases hd with hd | ⟨rfl, hd⟩ | ⟨rfl, rfl, hd⟩ | ⟨rfl, rfl, rfl, hd⟩ | ⟨rfl, rfl, rfl, rfl, hd⟩
    all_goals
      go_enter Try.func18, Try.ntmps18
      go_wp2_with fail
      go_ret
      exact ⟨rfl, bl_to (bl_alloc w _) (bl_alloc _ _)⟩

set_option maxHeartbeats 3200000 in
theorem rsame_any (u v : Value) (a b : Av) (w : World) (hu : Ax w u a) (hv : Ax w v b) (h1 : a.scr.length ≤ 4611686018427387904) (h2 : a.nam.length ≤ 4611686018427387904) (h3 : b.scr.length ≤ 4611686018427387904) (h4 : b.nam.length ≤ 4611686018427387904) :
    Calls Try.prog 19 #[u, v] w fun e w' => e = .returned (.bool (avB a b)) ∧ Below w.heap.size w w' := by
  obtain ⟨sv, nv, rfl, hs, hn⟩ := hu
  obtain ⟨sv', nv', rfl, hs', hn'⟩ := hv
  obtain ⟨q, e, s, i, uu, c, n⟩ := a
  obtain ⟨q', e', s', i', uu', c', n'⟩ := b
  simp only at hs hn hs' hn' h1 h2 h3 h4
  rcases Bool.eq_false_or_eq_true (optB ⟨q, e, s, i, uu, c, n⟩ ⟨q', e', s', i', uu', c', n'⟩) with ho | ho
  · have HV : Hid (avB ⟨q, e, s, i, uu, c, n⟩ ⟨q', e', s', i', uu', c', n'⟩ = (decide (c = c') && decide (n = n'))) := by show _ = _; simp only [avB]; rw [ho]; rfl
    simp only [optB, Bool.and_eq_true, beq_iff_eq, decide_eq_true_eq] at ho
    obtain ⟨rfl, rfl, rfl, rfl, rfl⟩ := ho
    rw [HV.out]
    have HT := Lib.hid (fun W (hb : Below w.heap.size w W) => Texts_any nv nv' n n' W (hn.to hb) (hn'.to hb) h2 h4)
    have HW : Hid (∀ x y, Below w.heap.size w ((w.alloc x).alloc y)) := fun x y => bl_to (bl_alloc w _) (bl_alloc _ _)
    clear HV
    have HS := Lib.hid hs
    have HS' := Lib.hid hs'
    obtain ⟨ao, cap, rfl, hc⟩ := hs
    obtain ⟨ao', cap', rfl, hc'⟩ := hs'
    clear hc hc' hn hn'
    have HWB := Lib.hid (HW.out (.cells #[.bool q, .bool e, .bool s, .bool i, .string uu, .slice ao c.length cap, nv] 27) (.cells #[.bool q, .bool e, .bool s, .bool i, .string uu, .slice ao' c'.length cap', nv'] 27))
    by_cases hl : c.length = c'.length
    · have hx := hl
      rw [hx] at HWB ⊢
      have HL := Lib.hid hl
      have a5 : ((w.alloc (.cells #[.bool q, .bool e, .bool s, .bool i, .string uu, .slice ao c'.length cap, nv] 27)).alloc (.cells #[.bool q, .bool e, .bool s, .bool i, .string uu, .slice ao' c'.length cap', nv'] 27)).cell? ⟨w.heap.size, 5, none⟩ = some (.slice ao c'.length cap) := by simp
      have a6 : ((w.alloc (.cells #[.bool q, .bool e, .bool s, .bool i, .string uu, .slice ao c'.length cap, nv] 27)).alloc (.cells #[.bool q, .bool e, .bool s, .bool i, .string uu, .slice ao' c'.length cap', nv'] 27)).cell? ⟨w.heap.size, 6, none⟩ = some nv := by simp
      have b5 : ((w.alloc (.cells #[.bool q, .bool e, .bool s, .bool i, .string uu, .slice ao c'.length cap, nv] 27)).alloc (.cells #[.bool q, .bool e, .bool s, .bool i, .string uu, .slice ao' c'.length cap', nv'] 27)).cell? ⟨w.heap.size + 1, 5, none⟩ = some (.slice ao' c'.length cap') := by simp
      have b6 : ((w.alloc (.cells #[.bool q, .bool e, .bool s, .bool i, .string uu, .slice ao c'.length cap, nv] 27)).alloc (.cells #[.bool q, .bool e, .bool s, .bool i, .string uu, .slice ao' c'.length cap', nv'] 27)).cell? ⟨w.heap.size + 1, 6, none⟩ = some nv' := by simp
      have hsz : w.heap.size + 1 < ((w.alloc (.cells #[.bool q, .bool e, .bool s, .bool i, .string uu, .slice ao c'.length cap, nv] 27)).alloc (.cells #[.bool q, .bool e, .bool s, .bool i, .string uu, .slice ao' c'.length cap', nv'] 27)).heap.size := by simp
      have A := Lib.hid (And.intro a5 (And.intro a6 (And.intro b5 (And.intro b6 hsz))))
      clear hl hx a5 a6 b5 b6 hsz h1
      go_enter Try.func19, Try.ntmps19
      go_wp2_with fail
      generalize ((w.alloc (.cells #[.bool q, .bool e, .bool s, .bool i, .string uu, .slice ao c'.length cap, nv] 27)).alloc (.cells #[.bool q, .bool e, .bool s, .bool i, .string uu, .slice ao' c'.length cap', nv'] 27)) = W0 at *
      go_loopw [5] (fun i wr => ∃ j : Nat, j ≤ c'.length ∧ i = .int .i64 j ∧ Below W0.heap.size W0 wr ∧ Hid (∀ k (h : k < j) (h1 : k < c.length) (h2 : k < c'.length), c[k] = c'[k])) (fun i _ => c'.length - (intOf i).toNat)
      case atStart => exact ⟨0, Nat.zero_le _, rfl, Below.refl _ _, fun k h => by omega⟩
      case round =>
        obtain ⟨j, hj, rfl, hbel, hpre⟩ := hrel
        obtain ⟨a5, a6, b5, b6, hsz⟩ := A.out
        have a5 := bl_cell hbel a5
        have a6 := bl_cell hbel a6
        have b5 := bl_cell hbel b5
        have b6 := bl_cell hbel b6
        have HBW := Lib.hid (HWB.out.trans (hbel.mono HWB.out.size))
        have HBEL := Lib.hid hbel
        clear hbel
        by_cases hlt : j < c'.length
        · have hltl : j < c.length := by rw [HL.out]; exact hlt
          obtain ⟨_, _, e1, hc1⟩ := HS.out
          obtain ⟨_, _, e2, hc2⟩ := HS'.out
          simp only [Value.slice.injEq] at e1 e2
          obtain ⟨rfl, _, _⟩ := e1
          obtain ⟨rfl, _, _⟩ := e2
          obtain ⟨bb, off, rfl, hbl, hc⟩ := hc1 (by omega)
          obtain ⟨bb', off', rfl, hbl', hc'⟩ := hc2 (by omega)
          have k0 := (HBW.out.cell (p := ⟨bb, off + j * 2, none⟩) hbl).trans (hc j hltl).1
          have k1 := (HBW.out.cell (p := ⟨bb, off + j * 2 + 1, none⟩) hbl).trans (hc j hltl).2
          have m0 := (HBW.out.cell (p := ⟨bb', off' + j * 2, none⟩) hbl').trans (hc' j hlt).1
          have m1 := (HBW.out.cell (p := ⟨bb', off' + j * 2 + 1, none⟩) hbl').trans (hc' j hlt).2
          have h0 : (0 : Int) ≤ (j : Int) := by omega
          have h1 : (j : Int) < (c'.length : Int) := by omega
          clear hc1 hc2
          by_cases hxy : c[j] = c'[j]
          · have hnext : Hid (∀ k (h : k < j + 1) (h1 : k < c.length) (h2 : k < c'.length), c[k] = c'[k]) := fun k h h1 h2 => by
              rcases Nat.lt_or_ge k j with h' | h'
              · exact hpre.out k h' h1 h2
              · obtain rfl : k = j := by omega
                exact hxy
            rw [hxy] at k0 k1
            generalize c'[j] = x at *
            clear hc hc' hxy hltl
            go_wp2_with fail
            go_quiet (fail)
            go_wp2_with fail
            go_roundw
            case rel => exact ⟨j + 1, by omega, by go_num, below_drewN HBEL.out _, hnext⟩
            case measure => simp [intOf]; omega
          · have HCC : Hid (decide (c = c') = false) := decide_eq_false (fun e => hxy (by simp [e]))
            generalize c[j] = x at *
            generalize c'[j] = z at *
            obtain ⟨xb, xt⟩ := x
            obtain ⟨zb, zt⟩ := z
            clear hc hc' hltl
            by_cases hb : xb = zb
            · have hxt : xt ≠ zt := fun e => hxy (by rw [hb, e])
              obtain ⟨e1, e2⟩ := toList_ne hxt
              subst hb
              clear hxy hxt
              go_wp2_with fail
              go_quiet (fail)
              go_wp2_with fail
              go_ret
              exact ⟨ret_bool (by rw [HCC.out]; rfl), below_drewN HBW.out _⟩
            · have e1 : (xb == zb) = false := by simpa using hb
              clear hxy hb
              go_wp2_with fail
              go_quiet (fail)
              go_wp2_with fail
              go_ret
              exact ⟨ret_bool (by rw [HCC.out]; rfl), below_drewN HBW.out _⟩
        · have HCC : Hid (decide (c = c') = true) := decide_eq_true (List.ext_getElem HL.out (fun i h1 h2 => hpre.out i (by omega) h1 h2))
          go_wp2_with fail
          refine (HT.out _ HBW.out).mono ?_
          rintro e w2 ⟨rfl, hb2⟩
          have HB2 := Lib.hid (bl_to HBW.out hb2)
          clear hb2
          go_wp2_with fail
          go_ret
          exact ⟨ret_bool (by rw [HCC.out]; rfl), HB2.out⟩
    · have hne : ((c.length : Int) != (c'.length : Int)) = true := by simp; omega
      have hcc : decide (c = c') = false := decide_eq_false (fun e => hl (by rw [e]))
      rw [hcc]
      clear hl
      go_enter Try.func19, Try.ntmps19
      go_wp2_with fail
      go_ret
      exact ⟨rfl, bl_to (bl_alloc w _) (bl_alloc _ _)⟩
  · have HV : Hid (avB ⟨q, e, s, i, uu, c, n⟩ ⟨q', e', s', i', uu', c', n'⟩ = false) := by show _ = _; simp only [avB]; rw [ho]; rfl
    rw [HV.out]
    have hd := optB_no ho
    obtain ⟨ao, cap, rfl, hc⟩ := hs
    obtain ⟨ao', cap', rfl, hc'⟩ := hs'
    clear ho HV hn hn' h1 h2 h3 h4 hc hc'
    rcases hd with hd | ⟨rfl, hd⟩ | ⟨rfl, rfl, hd⟩ | ⟨rfl, rfl, rfl, hd⟩ | ⟨rfl, rfl, rfl, rfl, hd⟩
    all_goals
      go_enter Try.func19, Try.ntmps19
      go_wp2_with fail
      go_ret
      exact ⟨rfl, bl_to (bl_alloc w _) (bl_alloc _ _)⟩
end Go.Proofs.Ytbigolappdlhcaa
