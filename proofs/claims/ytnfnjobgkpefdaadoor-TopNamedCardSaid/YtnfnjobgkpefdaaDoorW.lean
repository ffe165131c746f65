/- The walk of TopNamed. -/
import Derived.Test.YtnfnjobgkpefdaaDoorV
namespace Go.Proofs.YtnfnjobgkpefdaaDoor
set_option linter.unusedSimpArgs false
set_option linter.unusedVariables false
open Go.RowKit

theorem prefix_iff (X Y : ByteArray) : Y.data.toList <+: X.data.toList ↔ Y.size ≤ X.size ∧ (X.extract 0 Y.size).toList = Y.toList := by
  have hl : (X.extract 0 Y.size).toList = X.data.toList.take Y.size := by rw [Lib.toList_data, ba_extract]; rfl
  rw [hl, Lib.toList_data, List.prefix_iff_eq_take]
  have e1 : Y.data.toList.length = Y.size := (Lib.size_eq Y).symm
  have e2 : X.data.toList.length = X.size := (Lib.size_eq X).symm
  rw [e1]
  constructor
  · intro h
    refine ⟨?_, h.symm⟩
    have := congrArg List.length h
    rw [List.length_take, e1, e2] at this
    omega
  · rintro ⟨_, h⟩; exact h.symm
theorem pre_law {p q : List ByteArray} (hp : ∀ n ∈ bsL p, 47 ∉ n ∧ n ≠ [] ∧ n.length ≤ 255 ∧ 0 ∉ n ∧ n ≠ [46] ∧ n ≠ [46, 46]) (hq : ∀ n ∈ bsL q, 47 ∉ n ∧ n ≠ [] ∧ n.length ≤ 255 ∧ 0 ∉ n ∧ n ≠ [46] ∧ n ≠ [46, 46]) (X Y : ByteArray)
    (hX : X.data.toList = if textL (bsL p) = [47] then textL (bsL p) else textL (bsL p) ++ [47]) (hY : Y.data.toList = if textL (bsL q) = [47] then textL (bsL q) else textL (bsL q) ++ [47]) :
    alikeL (bsL p) (bsL q) = q.length ↔ Y.size ≤ X.size ∧ (X.extract 0 Y.size).toList = Y.toList := by
  rw [← prefix_iff, hX, hY, ← within_law (bsL p) (bsL q) (fun n h => ⟨(hp n h).1, (hp n h).2.1⟩) (fun n h => ⟨(hq n h).1, (hq n h).2.1⟩)]
  simp

set_option maxRecDepth 100000 in
set_option maxHeartbeats 6400000 in
theorem TopNamed_any (u v : Value) (p q : List ByteArray) (s : ByteArray) (w : World) (hu : Tx w u p) (hv : Tx w v q) (hs : Sh w) (hp : p.length ≤ 17592186044416) (hpx : ∀ s ∈ p, s.size ≤ 4611686018427387904) (hq : q.length ≤ 17592186044416) (hqx : ∀ s ∈ q, s.size ≤ 4611686018427387904) (hz : s.size ≤ 140737488355328) :
    Calls Tryd.prog 3 #[u, v, .string s] w fun e w' => e = .returned (.bool true) ∧ Below w.heap.size w w' := by
  have HBE := Lib.hid (begins_any w hs)
  have HP := Lib.hid (fun W (hb : Below w.heap.size w W) => Print_any u p W (hu.to hb) hp hpx)
  have HQ := Lib.hid (fun W (hb : Below w.heap.size w W) => Print_any v q W (hv.to hb) hq hqx)
  have HRP := Lib.hid (fun W (hb : Below w.heap.size w W) => Right_all u p W (hu.to hb) hp hpx)
  have HRQ := Lib.hid (fun W (hb : Below w.heap.size w W) => Right_all v q W (hv.to hb) hq hqx)
  have HU := Lib.hid hu
  have HV := Lib.hid hv
  have HS := Lib.hid hs
  clear hu hv hs hpx hqx
  go_enter Tryd.func3, Tryd.ntmps3
  go_wp2_with fail
  refine HBE.out.mono ?_
  rintro e w1 ⟨rfl, hb⟩
  have HB1 := Lib.hid hb
  clear hb HBE
  go_wp2_with fail
  refine (HP.out _ HB1.out).mono ?_
  rintro e w2 ⟨rfl, hb⟩
  have HB2 := Lib.hid (bl_to HB1.out hb)
  clear hb
  go_wp2_with fail
  refine (HQ.out _ HB2.out).mono ?_
  rintro e w3 ⟨rfl, hb⟩
  have HB3 := Lib.hid (bl_to HB2.out hb)
  clear hb
  cases hrp : rightL p
  · have hnp := prN_no hrp
    rw [hnp]
    rw [hrp] at HRP
    obtain ⟨nq, hnq⟩ : ∃ n, prN q = n := ⟨_, rfl⟩
    obtain ⟨rq, hrq⟩ : ∃ r, rightL q = r := ⟨_, rfl⟩
    rw [hnq]
    rw [hrq] at HRQ
    have hb : (nq == 0) = rq ∧ (nq = 0 ↔ rq = true) := by
      cases rq
      · rw [← hnq, prN_no hrq]; exact ⟨rfl, by simp⟩
      · rw [← hnq, prN_yes hrq]; exact ⟨rfl, by simp⟩
    obtain ⟨hb1, hb2⟩ := hb
    have HH := Lib.hid hb2
    clear hnp hnq hb2
    go_wp2_with fail
    refine (HRP.out _ HB3.out).mono ?_
    rintro e w4 ⟨rfl, hb⟩
    have HB4 := Lib.hid (bl_to HB3.out hb)
    clear hb
    go_wp2_with fail
    refine (HRQ.out _ HB4.out).mono ?_
    rintro e w5 ⟨rfl, hb⟩
    have HB5 := Lib.hid (bl_to HB4.out hb)
    clear hb
    go_wp2_with fail
    go_ret
    exact ⟨rfl, HB5.out⟩
  · have hnp := prN_yes hrp
    rw [hnp]
    cases hrq : rightL q
    · have hnq := prN_no hrq
      rw [hnq]
      rw [hrq] at HRQ
      rw [hrp] at HRP
      go_wp2_with fail
      refine (HRP.out _ HB3.out).mono ?_
      rintro e w4 ⟨rfl, hb⟩
      have HB4 := Lib.hid (bl_to HB3.out hb)
      clear hb
      go_wp2_with fail
      refine (HRQ.out _ HB4.out).mono ?_
      rintro e w5 ⟨rfl, hb⟩
      have HB5 := Lib.hid (bl_to HB4.out hb)
      clear hb
      go_wp2_with fail
      go_ret
      exact ⟨rfl, HB5.out⟩
    · have hnq := prN_yes hrq
      rw [hnq, prS_yes hrp, prS_yes hrq]
      obtain ⟨hpn, hps⟩ := names_of hrp
      obtain ⟨hqn, hqs⟩ := names_of hrq
      obtain ⟨hb1, hb2, hb3⟩ := text_back hpn
      have htl := textL_len p
      have htq := textL_len q
      obtain ⟨r0, hr0⟩ := textL_head (bsL p)
      obtain ⟨sb, hsb⟩ : ∃ sb : ByteArray, (⟨(textL (bsL p)).toArray⟩ : ByteArray) = sb := ⟨_, rfl⟩
      obtain ⟨tb, htb⟩ : ∃ tb : ByteArray, (⟨(textL (bsL q)).toArray⟩ : ByteArray) = tb := ⟨_, rfl⟩
      have esb : sb.data.toList = textL (bsL p) := by rw [← hsb]
      have etb : tb.data.toList = textL (bsL q) := by rw [← htb]
      have zsb : sb.size = max (sumL p) 1 := by rw [← htl, ← esb]; exact Lib.size_eq sb
      have ztb : tb.size = max (sumL q) 1 := by rw [← htq, ← etb]; exact Lib.size_eq tb
      rw [hsb, htb]
      obtain ⟨qb, hqb⟩ : ∃ qb : ByteArray, (⟨(quote sb.data.toList).toArray⟩ : ByteArray) = qb := ⟨_, rfl⟩
      have eqb : qb.data.toList = quote sb.data.toList := by rw [← hqb]
      have zqb : qb.size ≤ 4098 := by
        have h1 : qb.size = (quote sb.data.toList).length := by rw [← eqb]; exact Lib.size_eq qb
        have h2 := toldUp_le sb sb.size
        unfold toldUp at h2
        rw [List.take_of_length_le (by rw [← Lib.size_eq]; exact Nat.le_refl _)] at h2
        have h3 : (quote sb.data.toList).length = (sb.data.toList.flatMap quoB).length + 2 := by
          unfold quote; rw [List.length_cons, List.length_append]; rfl
        omega
      have HQU := Lib.hid (fun W (hb : Below w.heap.size w W) => Quote_any sb W (HS.out.to hb) (by omega))
      have hun : ∀ W, Below w.heap.size w W → Calls Tryd.prog 7 #[.string (qb ++ s)] W fun e w' => e = .returned (.tuple #[.string sb, .int .i64 (qb.size : Nat), .int .i64 0, .int .i64 0]) ∧ Below W.heap.size W w' := fun W hb => by
        have h := Unquote_any (qb ++ s) sb.data.toList s.data.toList W (by rw [ba_append, eqb]) (by rw [ByteArray.size_append]; omega) (by rw [← eqb, ← Lib.size_eq]; omega) (HS.out.to hb)
        have e1 : (⟨sb.data.toList.toArray⟩ : ByteArray) = sb := ba_ext rfl
        have e2 : (quote sb.data.toList).length = qb.size := by rw [← eqb]; exact (Lib.size_eq qb).symm
        rw [e1, e2] at h
        exact h
      have hno : ∀ W, Below w.heap.size w W → Calls Tryd.prog 9 #[v, .string sb] W fun e w' => (∃ r b, e = .returned (.tuple #[r, .bool b, .int .i64 0]) ∧ Tx w' r p) ∧ Below W.heap.size W w' := fun W hb => by
        have e3 : baL (normB (splitB sb.data.toList)) = p := by rw [esb, hb1, baL_bsL]
        have h0 : 0 < sb.size := by omega
        have h := Normal_any v q sb W (HV.out.to hb) hrq (by omega) h0 (by omega) (at_get (s := sb) (i := 0) (j := 0) (l := [47]) (r := r0) (by rw [List.drop_zero, esb, hr0]; rfl) (by simp) h0) (by rw [esb]; exact hb3) (by rw [esb]; exact hb2) (by rw [e3]; omega)
        rw [e3] at h
        exact h
      rw [hqb] at HQU
      have HUN := Lib.hid hun
      have HNO := Lib.hid hno
      have HES := Lib.hid esb
      have HET := Lib.hid etb
      have HPN := Lib.hid hpn
      have HQN := Lib.hid hqn
      have sz1 : ¬ 9223372036854775807 < qb.size + s.size := by omega
      have HSM := Lib.hid (fun r W (hb : Below w.heap.size w W) (hr : Tx W r p) => samePath_any r u p W hr (HU.out.to hb) (by have := sumL_len p; omega))
      have HWI := Lib.hid (fun W (hb : Below w.heap.size w W) => Within_any u v p q W (HU.out.to hb) (HV.out.to hb) (by have := sumL_len p; omega) (by have := sumL_len q; omega))
      have hs1 : sb.size ≤ 1024 := by omega
      have ht1 : tb.size ≤ 1024 := by omega
      clear hun hno esb etb hpn hqn hb1 hb2 hb3 htl htq hr0 hsb htb zsb ztb hqb eqb hps hqs
      go_wp2_with fail
      refine (HQU.out _ HB3.out).mono ?_
      rintro e w4 ⟨rfl, hb⟩
      have HB4 := Lib.hid (bl_to HB3.out hb)
      clear hb
      go_wp2_with fail
      refine (HUN.out _ HB4.out).mono ?_
      rintro e w5 ⟨rfl, hb⟩
      have HB5 := Lib.hid (bl_to HB4.out hb)
      clear hb
      go_wp2_with fail
      refine (HNO.out _ HB5.out).mono ?_
      rintro e w6 ⟨⟨r, b, rfl, hr⟩, hb⟩
      have HB6 := Lib.hid (bl_to HB5.out hb)
      have HR6 := Lib.hid hr
      clear hb hr
      go_wp2_with fail
      refine (HQU.out _ HB6.out).mono ?_
      rintro e w7 ⟨rfl, hb⟩
      have HB7 := Lib.hid (bl_to HB6.out hb)
      have HR7 := Lib.hid (HR6.out.to hb)
      clear hb
      go_wp2_with fail
      refine (HSM.out r _ HB7.out HR7.out).mono ?_
      rintro e w8 ⟨rfl, hb⟩
      have HB8 := Lib.hid (bl_to HB7.out hb)
      clear hb
      by_cases ht47 : tb.toList = [47]
      · have y1 : (tb.toList != [47]) = false := by rw [ht47]; rfl
        have y2 : (tb.toList == [47]) = true := by rw [ht47]; rfl
        by_cases hs47 : sb.toList = [47]
        · have y3 : (sb.toList != [47]) = false := by rw [hs47]; rfl
          have y4 : (sb.toList == [47]) = true := by rw [hs47]; rfl
          go_wp2_with fail
          refine (HWI.out _ HB8.out).mono ?_
          rintro e w9 ⟨rfl, hb⟩
          have HB9 := Lib.hid (bl_to HB8.out hb)
          clear hb
          have hlaw := pre_law HPN.out HQN.out sb tb (by rw [← HES.out]; rw [if_pos (by rw [← Lib.toList_data]; assumption)]) (by rw [← HET.out]; rw [if_pos (by rw [← Lib.toList_data]; assumption)])
          obtain ⟨bW, hbW⟩ : ∃ bW, decide (alikeL (bsL p) (bsL q) = q.length) = bW := ⟨_, rfl⟩
          rw [hbW]
          by_cases hXY : sb.size < tb.size
          · have k0 : bW = false := by rw [← hbW]; exact decide_eq_false (fun e => by have := (hlaw.1 e).1; omega)
            have k1 : decide ((tb.size : Int) ≤ (sb.size : Int)) = false := decide_eq_false (by omega)
            have k2 : ¬ (tb.size : Int) ≤ (sb.size : Int) := by omega
            subst k0
            clear hlaw hbW ht47 hs47 y1 y2 y3 y4
            go_wp2_with fail
            go_ret
            exact ⟨rfl, HB9.out⟩
          · have k1 : decide ((tb.size : Int) ≤ (sb.size : Int)) = true := decide_eq_true (by omega)
            have k2 : (tb.size : Int) ≤ (sb.size : Int) := by omega
            have k3 : (0 : Int) ≤ (tb.size : Int) := by omega
            by_cases hE : (sb.extract 0 tb.size).toList = tb.toList
            · have k0 : bW = true := by rw [← hbW]; exact decide_eq_true (hlaw.2 ⟨by omega, hE⟩)
              have k4 : ((sb.extract 0 tb.size).toList == tb.toList) = true := by rw [hE]; exact beq_self_eq_true _
              subst k0
              clear hlaw hbW ht47 hs47 y1 y2 y3 y4
              go_wp2_with fail
              go_ret
              exact ⟨rfl, HB9.out⟩
            · have k0 : bW = false := by rw [← hbW]; exact decide_eq_false (fun e => hE (hlaw.1 e).2)
              have k4 : ((sb.extract 0 tb.size).toList == tb.toList) = false := by simpa using hE
              subst k0
              clear hlaw hbW ht47 hs47 y1 y2 y3 y4
              go_wp2_with fail
              go_ret
              exact ⟨rfl, HB9.out⟩
        · have y3 : (sb.toList == [47]) = false := by simpa using hs47
          have y4 : (sb.toList != [47]) = true := by simp [bne, y3]
          have sz3 : ¬ 9223372036854775807 < sb.size + 1 := by omega
          go_wp2_with fail
          refine (HWI.out _ HB8.out).mono ?_
          rintro e w9 ⟨rfl, hb⟩
          have HB9 := Lib.hid (bl_to HB8.out hb)
          clear hb
          obtain ⟨X, hX⟩ : ∃ X, sb ++ ⟨#[47]⟩ = X := ⟨_, rfl⟩
          have hlaw := pre_law HPN.out HQN.out X tb (by rw [← hX, ← HES.out]; rw [if_neg (by rw [← Lib.toList_data]; assumption), ba_append]) (by rw [← HET.out]; rw [if_pos (by rw [← Lib.toList_data]; assumption)])
          obtain ⟨bW, hbW⟩ : ∃ bW, decide (alikeL (bsL p) (bsL q) = q.length) = bW := ⟨_, rfl⟩
          rw [hbW]
          rw [hX]
          by_cases hXY : X.size < tb.size
          · have k0 : bW = false := by rw [← hbW]; exact decide_eq_false (fun e => by have := (hlaw.1 e).1; omega)
            have k1 : decide ((tb.size : Int) ≤ (X.size : Int)) = false := decide_eq_false (by omega)
            have k2 : ¬ (tb.size : Int) ≤ (X.size : Int) := by omega
            subst k0
            clear hlaw hbW ht47 hs47 y1 y2 y3 y4 hX
            go_wp2_with fail
            go_ret
            exact ⟨rfl, HB9.out⟩
          · have k1 : decide ((tb.size : Int) ≤ (X.size : Int)) = true := decide_eq_true (by omega)
            have k2 : (tb.size : Int) ≤ (X.size : Int) := by omega
            have k3 : (0 : Int) ≤ (tb.size : Int) := by omega
            by_cases hE : (X.extract 0 tb.size).toList = tb.toList
            · have k0 : bW = true := by rw [← hbW]; exact decide_eq_true (hlaw.2 ⟨by omega, hE⟩)
              have k4 : ((X.extract 0 tb.size).toList == tb.toList) = true := by rw [hE]; exact beq_self_eq_true _
              subst k0
              clear hlaw hbW ht47 hs47 y1 y2 y3 y4 hX
              go_wp2_with fail
              go_ret
              exact ⟨rfl, HB9.out⟩
            · have k0 : bW = false := by rw [← hbW]; exact decide_eq_false (fun e => hE (hlaw.1 e).2)
              have k4 : ((X.extract 0 tb.size).toList == tb.toList) = false := by simpa using hE
              subst k0
              clear hlaw hbW ht47 hs47 y1 y2 y3 y4 hX
              go_wp2_with fail
              go_ret
              exact ⟨rfl, HB9.out⟩
      · have y1 : (tb.toList == [47]) = false := by simpa using ht47
        have y2 : (tb.toList != [47]) = true := by simp [bne, y1]
        have sz2 : ¬ 9223372036854775807 < tb.size + 1 := by omega
        by_cases hs47 : sb.toList = [47]
        · have y3 : (sb.toList != [47]) = false := by rw [hs47]; rfl
          have y4 : (sb.toList == [47]) = true := by rw [hs47]; rfl
          go_wp2_with fail
          refine (HWI.out _ HB8.out).mono ?_
          rintro e w9 ⟨rfl, hb⟩
          have HB9 := Lib.hid (bl_to HB8.out hb)
          clear hb
          obtain ⟨Y, hY⟩ : ∃ Y, tb ++ ⟨#[47]⟩ = Y := ⟨_, rfl⟩
          have hlaw := pre_law HPN.out HQN.out sb Y (by rw [← HES.out]; rw [if_pos (by rw [← Lib.toList_data]; assumption)]) (by rw [← hY, ← HET.out]; rw [if_neg (by rw [← Lib.toList_data]; assumption), ba_append])
          obtain ⟨bW, hbW⟩ : ∃ bW, decide (alikeL (bsL p) (bsL q) = q.length) = bW := ⟨_, rfl⟩
          rw [hbW]
          rw [hY]
          by_cases hXY : sb.size < Y.size
          · have k0 : bW = false := by rw [← hbW]; exact decide_eq_false (fun e => by have := (hlaw.1 e).1; omega)
            have k1 : decide ((Y.size : Int) ≤ (sb.size : Int)) = false := decide_eq_false (by omega)
            have k2 : ¬ (Y.size : Int) ≤ (sb.size : Int) := by omega
            subst k0
            clear hlaw hbW ht47 hs47 y1 y2 y3 y4 hY
            go_wp2_with fail
            go_ret
            exact ⟨rfl, HB9.out⟩
          · have k1 : decide ((Y.size : Int) ≤ (sb.size : Int)) = true := decide_eq_true (by omega)
            have k2 : (Y.size : Int) ≤ (sb.size : Int) := by omega
            have k3 : (0 : Int) ≤ (Y.size : Int) := by omega
            by_cases hE : (sb.extract 0 Y.size).toList = Y.toList
            · have k0 : bW = true := by rw [← hbW]; exact decide_eq_true (hlaw.2 ⟨by omega, hE⟩)
              have k4 : ((sb.extract 0 Y.size).toList == Y.toList) = true := by rw [hE]; exact beq_self_eq_true _
              subst k0
              clear hlaw hbW ht47 hs47 y1 y2 y3 y4 hY
              go_wp2_with fail
              go_ret
              exact ⟨rfl, HB9.out⟩
            · have k0 : bW = false := by rw [← hbW]; exact decide_eq_false (fun e => hE (hlaw.1 e).2)
              have k4 : ((sb.extract 0 Y.size).toList == Y.toList) = false := by simpa using hE
              subst k0
              clear hlaw hbW ht47 hs47 y1 y2 y3 y4 hY
              go_wp2_with fail
              go_ret
              exact ⟨rfl, HB9.out⟩
        · have y3 : (sb.toList == [47]) = false := by simpa using hs47
          have y4 : (sb.toList != [47]) = true := by simp [bne, y3]
          have sz3 : ¬ 9223372036854775807 < sb.size + 1 := by omega
          go_wp2_with fail
          refine (HWI.out _ HB8.out).mono ?_
          rintro e w9 ⟨rfl, hb⟩
          have HB9 := Lib.hid (bl_to HB8.out hb)
          clear hb
          obtain ⟨X, hX⟩ : ∃ X, sb ++ ⟨#[47]⟩ = X := ⟨_, rfl⟩
          obtain ⟨Y, hY⟩ : ∃ Y, tb ++ ⟨#[47]⟩ = Y := ⟨_, rfl⟩
          have hlaw := pre_law HPN.out HQN.out X Y (by rw [← hX, ← HES.out]; rw [if_neg (by rw [← Lib.toList_data]; assumption), ba_append]) (by rw [← hY, ← HET.out]; rw [if_neg (by rw [← Lib.toList_data]; assumption), ba_append])
          obtain ⟨bW, hbW⟩ : ∃ bW, decide (alikeL (bsL p) (bsL q) = q.length) = bW := ⟨_, rfl⟩
          rw [hbW]
          rw [hX]
          rw [hY]
          by_cases hXY : X.size < Y.size
          · have k0 : bW = false := by rw [← hbW]; exact decide_eq_false (fun e => by have := (hlaw.1 e).1; omega)
            have k1 : decide ((Y.size : Int) ≤ (X.size : Int)) = false := decide_eq_false (by omega)
            have k2 : ¬ (Y.size : Int) ≤ (X.size : Int) := by omega
            subst k0
            clear hlaw hbW ht47 hs47 y1 y2 y3 y4 hX hY
            go_wp2_with fail
            go_ret
            exact ⟨rfl, HB9.out⟩
          · have k1 : decide ((Y.size : Int) ≤ (X.size : Int)) = true := decide_eq_true (by omega)
            have k2 : (Y.size : Int) ≤ (X.size : Int) := by omega
            have k3 : (0 : Int) ≤ (Y.size : Int) := by omega
            by_cases hE : (X.extract 0 Y.size).toList = Y.toList
            · have k0 : bW = true := by rw [← hbW]; exact decide_eq_true (hlaw.2 ⟨by omega, hE⟩)
              have k4 : ((X.extract 0 Y.size).toList == Y.toList) = true := by rw [hE]; exact beq_self_eq_true _
              subst k0
              clear hlaw hbW ht47 hs47 y1 y2 y3 y4 hX hY
              go_wp2_with fail
              go_ret
              exact ⟨rfl, HB9.out⟩
            · have k0 : bW = false := by rw [← hbW]; exact decide_eq_false (fun e => hE (hlaw.1 e).2)
              have k4 : ((X.extract 0 Y.size).toList == Y.toList) = false := by simpa using hE
              subst k0
              clear hlaw hbW ht47 hs47 y1 y2 y3 y4 hX hY
              go_wp2_with fail
              go_ret
              exact ⟨rfl, HB9.out⟩
end Go.Proofs.YtnfnjobgkpefdaaDoor
