/- The walk of InputTakes. Printed by genW.py. -/
import Derived.Test.YtlckloeeimilhaaZ
import Derived.Test.YtlckloeeimilhaaH
import Derived.Test.YtlckloeeimilhaaL
namespace Go.Proofs.Ytlckloeeimilhaa
set_option linter.unusedSimpArgs false
set_option linter.unusedVariables false
open Go.RowKit

structure Bel (W0 : World) where
  val : World
  below : Below W0.heap.size W0 val
instance (W0 : World) : Nonempty (Bel W0) := ⟨⟨W0, Below.refl _ _⟩⟩
/-- A region all of whose operations and callees leave what there was as it was: walked once, in the text's order. -/
theorem region_bel {id : Nat} {Q : Exit → Act → World → Prop} {a : Act} {w : World} {l : List Oper} (W0 : World) (hw : Below W0.heap.size W0 w) (hm : Try.prog.follows .mixedOrders = true) (hB : Region.lexB .any l.toArray = true)
    (h : wpQuiet Try.prog l.toArray (fun w' => ∃ m : Bel W0, w' = m.val) (fun a' => ∀ m : Bel W0, Q .normal a' m.val) l a) : (Code.region id l.toArray true).wp Try.prog Q a w := by
  refine wp_region_quiet (C := fun w' => ∃ m : Bel W0, w' = m.val) hm hB ⟨⟨_, hw.drew⟩, rfl⟩ ?_
  have e : (fun a' => ∀ w', (∃ m : Bel W0, w' = m.val) → Q .normal a' w') = fun a' => ∀ m : Bel W0, Q .normal a' m.val := by
    funext a'
    exact propext ⟨fun h m => h _ ⟨m, rfl⟩, fun h w' ⟨m, hm⟩ => by rw [hm]; exact h m⟩
  rw [e]
  exact h
theorem calls_bel {f : FuncId} {args : Array Value} {v : Value} {W0 : World} (m : Bel W0) (h : Calls Try.prog f args m.val fun e w' => e = .returned v ∧ Below m.val.heap.size m.val w') : Calls Try.prog f args m.val fun e w' => e = .returned v ∧ ∃ m' : Bel W0, w' = m'.val :=
  h.mono fun _ w' hp => ⟨hp.1, ⟨w', bl_to m.below hp.2⟩, rfl⟩
theorem calls_eq {f : FuncId} {args : Array Value} {v : Value} {w : World} (h : Calls Try.prog f args w fun e w' => e = .returned v ∧ w = w') : Calls Try.prog f args w fun e w' => e = .returned v ∧ Below w.heap.size w w' :=
  h.mono fun _ w' hp => ⟨hp.1, hp.2 ▸ Below.refl _ _⟩
theorem EndE.ask {tl : List Tl} {sep : Bool} {x : IS} {t : Nat} (h : EndE tl x) (ht' : t = (itemsE 0 tl).length) : x.asked = (behB tl t sep).asked ∧ x.err = (behB tl t sep).err := by
  have e1 : (behB tl t sep).asked = aske (itemsE 0 tl) (endE 0 tl) tl.length t := by unfold behB; simp only []; split <;> rfl
  have e2 : (behB tl t sep).err = erre (itemsE 0 tl) (endE 0 tl) tl t := by unfold behB; simp only []; split <;> rfl
  rw [e1, e2]
  have ht : ¬ t < (itemsE 0 tl).length := by omega
  obtain ⟨g1, g2, g3⟩ := h
  rcases g3 with ⟨a1, ⟨d, a2⟩, a3, a4⟩ | ⟨a1, a2, a3⟩
  · have ea : aske (itemsE 0 tl) (endE 0 tl) tl.length t = endE 0 tl + 1 := by unfold aske; rw [dif_neg ht, if_pos a1]
    have ee : erre (itemsE 0 tl) (endE 0 tl) tl t = x.err := by
      unfold erre; rw [if_neg ht, dif_pos a1]
      rw [List.getElem?_eq_getElem a1] at a2
      simp only [Option.some.injEq] at a2
      rw [a2]
    rw [ea, ee]
    exact ⟨a4, rfl⟩
  · have ea : aske (itemsE 0 tl) (endE 0 tl) tl.length t = tl.length := by unfold aske; rw [dif_neg ht, if_neg (by omega)]
    have ee : erre (itemsE 0 tl) (endE 0 tl) tl t = 0 := by unfold erre; rw [if_neg ht, dif_neg (by omega)]
    rw [ea, ee]
    exact ⟨a3, a2⟩
/-- The state of the loop. -/
def TQ (w : World) (X S : Nat) (tv : Value) (C : Nat) (tl : List Tl) (sep : Bool) (t : Nat) (wr : World) : Prop :=
  ∃ x lv av, TS C tl sep x t ∧ Inp wr w.heap.size X S lv x ∧ Src wr w.heap.size S tv av tl (List.range x.asked) ∧ Below w.heap.size w wr

set_option maxRecDepth 100000 in
set_option maxHeartbeats 25600000 in
theorem takes_core (v : Value) (l : List Tl) (sep : Bool) (times : Int) (w : World) (h : Tv w v l) (hl : l.length ≤ 1024) (hs : ∀ d ∈ toldL l, d.1.size ≤ 1048576) (hI : (itemsE 0 (toldL l)).length ≤ 1048576) :
    Calls Try.prog 4 #[v, .bool sep, .int .i64 times] w fun e w' => e = .returned (.bool true) ∧ Below w.heap.size w w' := by
  have HT := Lib.hid (told_any v l w h (by omega))
  obtain ⟨va, vc, rfl, _, _⟩ := h
  obtain ⟨tl, htl⟩ : ∃ tl, toldL l = tl := ⟨_, rfl⟩
  have hlen : tl.length = l.length := by rw [← htl]; exact List.length_map _
  rw [htl] at HT hs hI
  rw [← hlen] at HT hl
  have HSZ : Hid (∀ d ∈ tl, d.1.size ≤ 4194304) := fun d hd => by have := hs d hd; omega
  have HSM : Hid (∀ d ∈ tl, d.1.size ≤ 1048576) := hs
  have HIL : Hid ((itemsE 0 tl).length ≤ 4194304) := by show _ ≤ _; omega
  have hIn : (itemsE 0 tl).length ≤ 1048576 := hI
  clear hs hI htl
  rw [← hlen]
  clear hlen
  go_enter Try.func4, Try.ntmps4
  go_wp2_with fail
  refine HT.out.mono ?_
  rintro e w1 ⟨tv, rfl, hr1, hb1⟩
  obtain ⟨ta, tc, rfl, _, _⟩ := row_shape hr1
  have hs2 : Src (w1.alloc (.cells #[.slice ta tl.length tc, .slice none 0 0] 28)) w.heap.size w1.heap.size (.slice ta tl.length tc) (.slice none 0 0) tl [] :=
    ⟨heap_alloc_new _ _, row_to (bl_alloc _ _) hr1, World.ownsRow_nil _ _ _ _, hb1.size⟩
  have HB2 := Lib.hid (bl_to hb1 (bl_alloc w1 (.cells #[.slice ta tl.length tc, .slice none 0 0] 28)))
  have HS2 := Lib.hid hs2
  have HN := Lib.hid (New_yes w.heap.size w1.heap.size (.slice ta tl.length tc) (.slice none 0 0) tl sep tl.length rfl _ hs2 hl (fun d hd => by have := HSM.out d hd; omega) HB2.out.size)
  have z1 : ¬ (1024 : Int) < (tl.length : Int) := by omega
  have z2 : decide ((1024 : Int) < (tl.length : Int)) = false := decide_eq_false z1
  clear hr1 hb1 hs2
  go_wp2_with fail
  refine HN.out.mono ?_
  rintro e w3 ⟨rfl, lv3, av3, hi3, hsr3, hf3, -⟩
  have hts : TS 1048576 tl sep (look0 tl sep) 0 := TS.start 1048576 tl HSM.out sep
  have HB3 := Lib.hid (HB2.out.trans hf3.below)
  have HI3 := Lib.hid hi3
  have HS3 := Lib.hid hsr3
  have HTS3 := Lib.hid hts
  have hX : (w1.alloc (.cells #[.slice ta tl.length tc, .slice none 0 0] 28)).heap.size = w1.heap.size + 1 := by simp
  rw [hX] at HI3
  clear hi3 hsr3 hf3 hts HS2 HN HT hX HB2
  go_wp2_with fail
  refine (lives_any _).mono ?_
  rintro e w4 ⟨rfl, hb4⟩
  have HB4 := Lib.hid (bl_to HB3.out hb4)
  have HI4 := Lib.hid (HI3.out.to hb4)
  have HS4 := Lib.hid (HS3.out.to hb4)
  have HMO := Lib.hid (most_any (.slice ta tl.length tc) tl w4 (Tv.ofOwn HS4.out.told) HSZ.out HIL.out (by omega))
  clear hb4
  go_wp2_with fail
  refine HMO.out.mono ?_
  rintro e w5 ⟨⟨mo, rfl⟩, hb5⟩
  have HTQ : Hid (TQ w (w1.heap.size + 1) w1.heap.size (.slice ta tl.length tc) 1048576 tl sep 0 w5) := ⟨_, _, _, HTS3.out, HI4.out.to hb5, HS4.out.to hb5, bl_to HB4.out hb5⟩
  clear hb5 HMO HB4 HI4 HS4 HI3 HS3 HTS3 HB3
  go_wp2_with fail
  generalize w1.heap.size = S at *
  obtain ⟨we, hwe⟩ : ∃ W : World, W = w5 := ⟨_, rfl⟩
  rw [← hwe] at HTQ ⊢
  clear hwe z1 z2
  obtain ⟨X, hX⟩ : ∃ X, S + 1 = X := ⟨_, rfl⟩
  rw [hX] at HTQ ⊢
  clear hX
  go_loopw [9, 11] (fun s9 s11 wr => ∃ t : Nat, t ≤ (itemsE 0 tl).length ∧ s9 = .int .i64 t ∧ s11 = .int .i64 t ∧ TQ w X S (.slice ta tl.length tc) 1048576 tl sep t wr) (fun s9 _ _ => (itemsE 0 tl).length - (intOf s9).toNat)
  case atStart => exact ⟨0, Nat.zero_le _, rfl, rfl, HTQ.out⟩
  case round =>
    clear HTQ
    obtain ⟨t, htI, rfl, rfl, x, lv, av, hts, hx, hsr, hb⟩ := hrel
    obtain ⟨a1, a2, a3, a4⟩ := hts.ask
    obtain ⟨b0, hb0⟩ : ∃ b0, behB tl t sep = b0 := ⟨_, rfl⟩
    rw [hb0] at a1 a2 a3 a4
    have HTS := Lib.hid hts
    have HBE := Lib.hid (behind_any _ tl t sep wr (Tv.ofOwn hsr.told) HSZ.out HIL.out (by omega) htI)
    rw [hb0] at HBE
    obtain ⟨ao, cap, rfl, _, _⟩ := row_shape hsr.asked
    rw [List.length_range] at hsr
    have HX := Lib.hid hx
    have HS := Lib.hid hsr
    have HB := Lib.hid hb
    have hak : x.asked ≤ tl.length := by
      rw [a1, ← hb0]
      have := aske_le tl t
      have e1 : (behB tl t sep).asked = aske (itemsE 0 tl) (endE 0 tl) tl.length t := by unfold behB; simp only []; split <;> rfl
      omega
    have A1 := Lib.hid a1
    have A2 := Lib.hid a2
    have A4 := Lib.hid a4
    have HB0 := Lib.hid hb0
    have hti : (t : Int) ≤ 1048576 := by omega
    clear hts hx hsr hb a1 a2 a3 a4 hb0
    go_wp2_with fail
    refine HBE.out.mono ?_
    rintro e w4 ⟨rfl, hb4⟩
    obtain ⟨W5, hW5⟩ : ∃ W, w4.alloc (.cells b0.cells 48) = W := ⟨_, rfl⟩
    have hx5 : XB W5 w4.heap.size b0 := by rw [← hW5]; exact heap_alloc_new _ _
    have hbl : Below w4.heap.size w4 W5 := by rw [← hW5]; exact bl_alloc _ _
    have hb5 := bl_to hb4 hbl
    have HB5 := Lib.hid (bl_to HB.out hb5)
    have hs5 := HS.out.to hb5
    have HX5 := Lib.hid (HX.out.to hb5)
    have HS5 := Lib.hid hs5
    obtain ⟨y0, -⟩ := blk_at hx5 0 (v := .int .i64 b0.err) rfl
    obtain ⟨y7, -⟩ := blk_at hx5 7 (v := .int .i64 b0.asked) rfl
    obtain ⟨y10, -⟩ := blk_at hx5 10 (v := .bool b0.found) rfl
    rw [← A1.out] at y7
    rw [← A2.out] at y0
    rw [A4.out] at y10
    obtain ⟨s1, -⟩ := blk_at hs5.blk 1 (v := .slice ao x.asked cap) rfl
    have q0 : ((x.asked : Int) != (x.asked : Int)) = false := by simp
    clear hb4 hbl hb5 hs5 hx5 HBE HX HS HB
    by_cases herr : x.err = 0
    · rw [herr] at y0
      by_cases hhas : x.has = true
      · rw [hhas] at y10
        by_cases htm : times ≤ (t : Int)
        · have c1 : decide (times ≤ (t : Int)) = true := decide_eq_true htm
          go_wp2_with fail
          go_quiet (fail)
          have HBa := Lib.hid (fun W (hb : Below W5.heap.size W5 W) => behind_any _ tl t sep W ((Tv.ofOwn HS5.out.told).to hb) HSZ.out HIL.out (by omega) htI)
          rw [HB0.out] at HBa
          go_wp2_with fail
          refine (HBa.out _ (below_drewN (Below.refl _ _) _)).mono ?_
          rintro e w7 ⟨rfl, hb7⟩
          obtain ⟨W8, hW8⟩ : ∃ W, w7.alloc (.cells b0.cells 48) = W := ⟨_, rfl⟩
          have hx8 : XB W8 w7.heap.size b0 := by rw [← hW8]; exact heap_alloc_new _ _
          have hb8 : Below w7.heap.size w7 W8 := by rw [← hW8]; exact bl_alloc _ _
          have hb58 := bl_to (bl_to (below_drewN (Below.refl W5.heap.size W5) _) hb7) hb8
          have HB8 := Lib.hid (bl_to HB5.out hb58)
          have hs8 := HS5.out.to hb58
          have hi8 := HX5.out.to hb58
          have HI8 := Lib.hid hi8
          have HS8 := Lib.hid hs8
          obtain ⟨z7, -⟩ := blk_at hx8 7 (v := .int .i64 b0.asked) rfl
          obtain ⟨z0, -⟩ := blk_at hx8 0 (v := .int .i64 b0.err) rfl
          obtain ⟨z10, -⟩ := blk_at hx8 10 (v := .bool b0.found) rfl
          rw [← A1.out] at z7
          rw [← A2.out, herr] at z0
          rw [A4.out, hhas] at z10
          obtain ⟨s1, -⟩ := blk_at hs8.blk 1 (v := .slice ao x.asked cap) rfl
          have HX8 := Lib.hid hx8
          have HAS := Lib.hid (fun n => (asked_any (.slice ao x.asked cap) x.asked w.heap.size (W8.drewN n) (by have := (hs8.to (below_drewN (Below.refl _ _) n)).asked; rwa [List.length_range] at this) (by have := hak; omega)).mono (fun e w' (hp : e = .returned (.bool true) ∧ W8.drewN n = w') => (⟨hp.1, hp.2.symm⟩ : e = .returned (.bool true) ∧ w' = W8.drewN n)))
          have HER := Lib.hid (fun n => (Err_any (hi8.to (below_drewN (Below.refl _ _) n))).mono (fun e w' (hp : e = .returned (.int .i64 x.err) ∧ W8.drewN n = w') => (⟨hp.1, hp.2.symm⟩ : e = .returned (.int .i64 x.err) ∧ w' = W8.drewN n)))
          rw [herr] at HER
          clear hb58 hs8 hi8 hx8 hb7 hb8 y0 y7 y10
          go_wp2_with fail
          go_quiet ((first | (go_at_call 16; exact Calls.quiet_of_same (HAS.out _)) | (go_at_call 21; exact Calls.quiet_of_same (HER.out _))))
          go_wp2_with fail
          go_ret
          exact ⟨rfl, HB8.out.trans ((below_drewN (Below.refl _ _) _).mono HB8.out.size)⟩
        · have c1 : decide (times ≤ (t : Int)) = false := decide_eq_false htm
          have c1' : ¬ times ≤ (t : Int) := htm
          have htl : t < (itemsE 0 tl).length := by
            rcases Nat.lt_or_ge t (itemsE 0 tl).length with h | h
            · exact h
            · have := (HTS.out.en (Nat.le_antisymm HTS.out.le h)).1
              rw [hhas] at this; cases this
          have HBN := Lib.hid (fun n => behind_any _ tl (t + 1) sep (W5.drewN n) (Tv.ofOwn (HS5.out.to (below_drewN (Below.refl _ _) n)).told) HSZ.out HIL.out (by omega) (by omega))
          obtain ⟨b1, hb1⟩ : ∃ b1, behB tl (t + 1) sep = b1 := ⟨_, rfl⟩
          have e1 : ((t + 1 : Nat) : Int) = (t : Int) + 1 := by omega
          rw [hb1, e1] at HBN
          obtain ⟨⟨lt0, lb0⟩, k, m, hxt⟩ : ∃ l k m, (itemsE 0 tl)[t]? = some (l, k, m) := ⟨_, _, _, List.getElem?_eq_getElem htl⟩
          obtain ⟨hgd, n1, n2, n3, n4, n5, n6, n7, n8⟩ := HTS.out.nx _ k m hxt
          have HTA := Lib.hid (fun W hw => Take_go (HX5.out.to (w' := W) hw) (HS5.out.to hw) herr hhas hgd.n hgd.ask (by omega) (fun d hd => by have := HSM.out d hd; omega) (by have := hgd.cnt; omega) (by rw [HTS.out.tak]; omega) (Nat.le_trans HB5.out.size hw.size))
          have HST := Lib.hid (HTS.out.step HSM.out htl)
          clear hgd n1 n2 n3 n4 n5 n6 n7 n8 hxt e1
          go_wp2_with fail
          go_quiet (fail)
          go_wp2_with fail
          refine (HBN.out _).mono ?_
          rintro e w6 ⟨rfl, hb6⟩
          obtain ⟨W7, hW7⟩ : ∃ W, w6.alloc (.cells b1.cells 48) = W := ⟨_, rfl⟩
          have hx7 : XB W7 w6.heap.size b1 := by rw [← hW7]; exact heap_alloc_new _ _
          have hb57 : Below W5.heap.size W5 W7 := bl_to (bl_to (below_drewN (Below.refl _ _) _) hb6) (by rw [← hW7]; exact bl_alloc _ _)
          have HB7 := Lib.hid (bl_to HB5.out hb57)
          have HX7 := Lib.hid hx7
          have HT7 := Lib.hid (HTA.out _ hb57)
          clear y0 y7 y10 s1 q0 hb6 hx7 hb57 HBN HTA HX5 HS5 HB5
          go_wp2_with fail
          refine HT7.out.mono ?_
          rintro e w8 ⟨hE, hO⟩
          by_cases hye : (looked tl x).err = 0
          · obtain ⟨rfl, lv8, av8, hi8, hs8, hf8, -⟩ := hO hye
            have hts := HST.out.2 hye
            obtain ⟨sb, sl, sw⟩ := hts.same (Nat.succ_pos t)
            obtain ⟨g1, g2, -, -⟩ := hts.ask
            rw [hb1] at sb sl sw g1 g2
            have e0 : b1.err = 0 := by rw [← g2]; exact hye
            replace sl : b1.lt = x.nt := sl
            replace sw : b1.lw = x.nwh := sw
            obtain ⟨y, hy⟩ : ∃ y, took tl x = y := ⟨_, rfl⟩
            rw [hy] at hi8 hs8 hts sb g1
            obtain ⟨W9, hW9⟩ : ∃ W, w8.alloc (.cells #[.string x.nt, .bool x.nwh] 37) = W := ⟨_, rfl⟩
            have hb9 : Below w8.heap.size w8 W9 := by rw [← hW9]; exact bl_alloc _ _
            have hl9 : W9.heap[w8.heap.size]? = some (.cells #[.string x.nt, .bool x.nwh] 37 (0, 0)) := by rw [← hW9]; exact heap_alloc_new _ _
            replace hi8 := hi8.to hb9
            replace hs8 := hs8.to hb9
            have hx8' := hf8.keep _ _ _ _ HX7.out (by decide) (by decide) (by decide)
            have hx8 := (hb9.block _ (lt_of_block hx8')).trans hx8'
            have HB8 := Lib.hid (bl_to (HB7.out.trans hf8.below) hb9)
            obtain ⟨z0, -⟩ := blk_at hx8 0 (v := .int .i64 b1.err) rfl
            obtain ⟨z1, -⟩ := blk_at hx8 1 (v := .bool b1.last) rfl
            obtain ⟨z2, -⟩ := blk_at hx8 2 (v := .int .i64 (b1.num : Int)) rfl
            obtain ⟨z3, -⟩ := blk_at hx8 3 (v := .int .i64 (b1.at_ : Int)) rfl
            obtain ⟨z4, -⟩ := blk_at hx8 4 (v := .bool b1.fresh) rfl
            obtain ⟨z5, -⟩ := blk_at hx8 5 (v := .bool b1.passed) rfl
            obtain ⟨z6, -⟩ := blk_at hx8 6 (v := .string b1.data) rfl
            obtain ⟨z7, -⟩ := blk_at hx8 7 (v := .int .i64 b1.asked) rfl
            obtain ⟨z8, -⟩ := blk_at hx8 8 (v := .string b1.lt) rfl
            obtain ⟨z9, -⟩ := blk_at hx8 9 (v := .bool b1.lw) rfl
            obtain ⟨z10, -⟩ := blk_at hx8 10 (v := .bool b1.found) rfl
            obtain ⟨l0, -⟩ := blk_at hl9 0 (v := .string x.nt) rfl
            obtain ⟨l1, -⟩ := blk_at hl9 1 (v := .bool x.nwh) rfl
            have hv : b1.val = .agg #[.int .i64 0, .bool b1.last, .int .i64 (b1.num : Int), .int .i64 (b1.at_ : Int), .bool b1.fresh, .bool b1.passed, .string b1.data, .int .i64 y.asked, .string x.nt, .bool x.nwh, .bool b1.found] := by
              show Value.agg b1.cells = _
              unfold BS.cells
              rw [e0, sl, sw, g1]
            rw [e0] at z0
            rw [← g1] at z7
            rw [sl] at z8
            rw [sw] at z9
            have hya : y.asked ≤ tl.length := by
              rw [g1, ← hb1]
              have := aske_le tl (t + 1)
              have e1 : (behB tl (t + 1) sep).asked = aske (itemsE 0 tl) (endE 0 tl) tl.length (t + 1) := by unfold behB; simp only []; split <;> rfl
              omega
            have HAV := Lib.hid hs8.asked
            obtain ⟨ao8, cap8, rfl, _, _⟩ := row_shape hs8.asked
            obtain ⟨s1, -⟩ := blk_at hs8.blk 1 (v := .slice ao8 y.asked cap8) (by rw [List.length_range]; rfl)
            have HI8 := Lib.hid hi8
            have HS8 := Lib.hid hs8
            have HTS8 := Lib.hid hts
            have HSB := Lib.hid sb
            have HV := Lib.hid hv
            have z0' := z0
            rw [← hW9] at z0'
            have HW9 := Lib.hid hW9
            have hq : t + 1 ≤ (itemsE 0 tl).length := htl
            have f0 : ((0 : Int) != 0) = false := rfl
            clear hi8 hs8 hf8 hE hO g1 g2 hx8 hx8' hb9 hl9 HST HT7 HB7 HTS A1 A2 A4 HB0 hy hts sb sl sw e0 hv hW9 HX7 HAV hye herr
            go_wp2_with fail
            rw [HW9.out]
            clear z0' HW9
            have Z0 : ∀ m : Bel W9, m.val.cell? ⟨w6.heap.size, 0, none⟩ = some (.int .i64 0) := fun m => bl_cell m.below z0
            have Z1 : ∀ m : Bel W9, m.val.cell? ⟨w6.heap.size, 1, none⟩ = some (.bool b1.last) := fun m => bl_cell m.below z1
            have Z2 : ∀ m : Bel W9, m.val.cell? ⟨w6.heap.size, 2, none⟩ = some (.int .i64 (b1.num : Int)) := fun m => bl_cell m.below z2
            have Z3 : ∀ m : Bel W9, m.val.cell? ⟨w6.heap.size, 3, none⟩ = some (.int .i64 (b1.at_ : Int)) := fun m => bl_cell m.below z3
            have Z4 : ∀ m : Bel W9, m.val.cell? ⟨w6.heap.size, 4, none⟩ = some (.bool b1.fresh) := fun m => bl_cell m.below z4
            have Z5 : ∀ m : Bel W9, m.val.cell? ⟨w6.heap.size, 5, none⟩ = some (.bool b1.passed) := fun m => bl_cell m.below z5
            have Z6 : ∀ m : Bel W9, m.val.cell? ⟨w6.heap.size, 6, none⟩ = some (.string b1.data) := fun m => bl_cell m.below z6
            have Z7 : ∀ m : Bel W9, m.val.cell? ⟨w6.heap.size, 7, none⟩ = some (.int .i64 y.asked) := fun m => bl_cell m.below z7
            have Z8 : ∀ m : Bel W9, m.val.cell? ⟨w6.heap.size, 8, none⟩ = some (.string x.nt) := fun m => bl_cell m.below z8
            have Z9 : ∀ m : Bel W9, m.val.cell? ⟨w6.heap.size, 9, none⟩ = some (.bool x.nwh) := fun m => bl_cell m.below z9
            have Z10 : ∀ m : Bel W9, m.val.cell? ⟨w6.heap.size, 10, none⟩ = some (.bool b1.found) := fun m => bl_cell m.below z10
            have L0 : ∀ m : Bel W9, m.val.cell? ⟨w8.heap.size, 0, none⟩ = some (.string x.nt) := fun m => bl_cell m.below l0
            have L1 : ∀ m : Bel W9, m.val.cell? ⟨w8.heap.size, 1, none⟩ = some (.bool x.nwh) := fun m => bl_cell m.below l1
            have S1 : ∀ m : Bel W9, m.val.cell? ⟨S, 1, none⟩ = some (.slice ao8 y.asked cap8) := fun m => bl_cell m.below s1
            have SA := Lib.hid (fun m : Bel W9 => calls_bel m (same_any (HI8.out.to m.below) b1 HSB.out))
            rw [HV.out] at SA
            have AS := Lib.hid (fun m : Bel W9 => calls_bel m (calls_eq (asked_any (.slice ao8 y.asked cap8) y.asked w.heap.size m.val (by have := (HS8.out.to m.below).asked; rwa [List.length_range] at this) (by have := hya; omega))))
            clear z0 z1 z2 z3 z4 z5 z6 z7 z8 z9 z10 l0 l1 s1
            refine region_bel W9 (by first | exact Below.refl _ _ | exact below_drewN (Below.refl _ _) _) (by kernel_rfl) (by kernel_rfl) ?_
            repeat (go_big_quiet_step ((first | exact SA.out _ | exact AS.out _)))

            refine wpQuiet_nil ?_
            intro m
            clear Z0 Z1 Z2 Z3 Z4 Z5 Z6 Z7 Z8 Z9 Z10 L0 L1 S1
            go_wp2_with fail
            go_roundw
            case rel => exact ⟨t + 1, hq, by go_num, by go_num, y, _, _, HTS8.out, HI8.out.to m.below, HS8.out.to m.below, HB8.out.trans (m.below.mono HB8.out.size)⟩
            case measure => simp [intOf]; omega
          · obtain ⟨rfl, lv8, av8, hi8, hs8, hf8, -⟩ := hE hye
            obtain ⟨W9, hW9⟩ : ∃ W, w8.alloc (.cells #[.string ⟨#[]⟩, .bool false] 37) = W := ⟨_, rfl⟩
            have hb9 : Below w8.heap.size w8 W9 := by rw [← hW9]; exact bl_alloc _ _
            have hl9 : W9.heap[w8.heap.size]? = some (.cells #[.string ⟨#[]⟩, .bool false] 37 (0, 0)) := by rw [← hW9]; exact heap_alloc_new _ _
            replace hi8 := hi8.to hb9
            replace hs8 := hs8.to hb9
            have hx8' := hf8.keep _ _ _ _ HX7.out (by decide) (by decide) (by decide)
            have hx8 := (hb9.block _ (lt_of_block hx8')).trans hx8'
            have HB8 := Lib.hid (bl_to (HB7.out.trans hf8.below) hb9)
            obtain ⟨hEnd, hend⟩ := HST.out.1 hye
            obtain ⟨y, hy⟩ : ∃ y, looked tl x = y := ⟨_, rfl⟩
            rw [hy] at hi8 hs8 hye hEnd
            obtain ⟨g1, g2⟩ := hEnd.ask (t := t + 1) (sep := sep) hend
            rw [hb1] at g1 g2
            obtain ⟨z0, -⟩ := blk_at hx8 0 (v := .int .i64 b1.err) rfl
            obtain ⟨z7, -⟩ := blk_at hx8 7 (v := .int .i64 b1.asked) rfl
            obtain ⟨l0, -⟩ := blk_at hl9 0 (v := .string ⟨#[]⟩) rfl
            obtain ⟨l1, -⟩ := blk_at hl9 1 (v := .bool false) rfl
            rw [← g2] at z0
            rw [← g1] at z7
            have hya : y.asked ≤ tl.length := by
              rcases hEnd.2.2 with ⟨h1, _, _, h2⟩ | ⟨_, _, h2⟩ <;> omega
            have hyh : y.has = false := hEnd.1
            obtain ⟨ao8, cap8, rfl, _, _⟩ := row_shape hs8.asked
            obtain ⟨s1, -⟩ := blk_at hs8.blk 1 (v := .slice ao8 y.asked cap8) (by rw [List.length_range]; rfl)
            have HI8 := Lib.hid hi8
            have HS8 := Lib.hid hs8
            have z0n : (y.err != 0) = true := by simpa using hye
            have z0n' : ¬ y.err = 0 := hye
            rw [hy]
            clear hi8 hs8 hf8 hE hO hEnd g1 g2 hx8 hx8' hb9 hl9 HST HT7 HB7 HTS A1 A2 A4 HB0 hy
            have z0' := z0
            rw [← hW9] at z0'
            have HW9 := Lib.hid hW9
            clear hW9
            go_wp2_with fail
            rw [HW9.out]
            clear z0' HW9
            have Z0 : ∀ m : Bel W9, m.val.cell? ⟨w6.heap.size, 0, none⟩ = some (.int .i64 y.err) := fun m => bl_cell m.below z0
            have Z7 : ∀ m : Bel W9, m.val.cell? ⟨w6.heap.size, 7, none⟩ = some (.int .i64 y.asked) := fun m => bl_cell m.below z7
            have L0 : ∀ m : Bel W9, m.val.cell? ⟨w8.heap.size, 0, none⟩ = some (.string ⟨#[]⟩) := fun m => bl_cell m.below l0
            have L1 : ∀ m : Bel W9, m.val.cell? ⟨w8.heap.size, 1, none⟩ = some (.bool false) := fun m => bl_cell m.below l1
            have S1 : ∀ m : Bel W9, m.val.cell? ⟨S, 1, none⟩ = some (.slice ao8 y.asked cap8) := fun m => bl_cell m.below s1
            have AG := Lib.hid (fun m : Bel W9 => calls_bel m (again_any (HI8.out.to m.below) (HS8.out.to m.below) (.inl hye) (HB8.out.trans (m.below.mono HB8.out.size)).size))
            have AS := Lib.hid (fun m : Bel W9 => calls_bel m (calls_eq (asked_any (.slice ao8 y.asked cap8) y.asked w.heap.size m.val (by have := (HS8.out.to m.below).asked; rwa [List.length_range] at this) (by have := hya; omega))))
            have ER := Lib.hid (fun m : Bel W9 => calls_bel m (calls_eq (Err_any (HI8.out.to m.below))))
            clear z0 z7 l0 l1 s1
            refine region_bel W9 (by first | exact Below.refl _ _ | exact below_drewN (Below.refl _ _) _) (by kernel_rfl) (by kernel_rfl) ?_
            repeat (go_big_quiet_step ((first | exact AG.out _ | exact AS.out _ | exact ER.out _)))

            refine wpQuiet_nil ?_
            intro m
            clear Z0 Z7 L0 L1 S1
            go_wp2_with fail
            go_ret
            exact ⟨rfl, HB8.out.trans (m.below.mono HB8.out.size)⟩
      · have hh0 : x.has = false := by simpa using hhas
        rw [hh0] at y10
        go_wp2_with fail
        go_quiet (fail)
        have HBa := Lib.hid (fun W (hb : Below W5.heap.size W5 W) => behind_any _ tl t sep W ((Tv.ofOwn HS5.out.told).to hb) HSZ.out HIL.out (by omega) htI)
        rw [HB0.out] at HBa
        go_wp2_with fail
        refine (HBa.out _ (below_drewN (Below.refl _ _) _)).mono ?_
        rintro e w7 ⟨rfl, hb7⟩
        obtain ⟨W8, hW8⟩ : ∃ W, w7.alloc (.cells b0.cells 48) = W := ⟨_, rfl⟩
        have hx8 : XB W8 w7.heap.size b0 := by rw [← hW8]; exact heap_alloc_new _ _
        have hb8 : Below w7.heap.size w7 W8 := by rw [← hW8]; exact bl_alloc _ _
        have hb58 := bl_to (bl_to (below_drewN (Below.refl W5.heap.size W5) _) hb7) hb8
        have HB8 := Lib.hid (bl_to HB5.out hb58)
        have hs8 := HS5.out.to hb58
        have hi8 := HX5.out.to hb58
        have HI8 := Lib.hid hi8
        have HS8 := Lib.hid hs8
        obtain ⟨z7, -⟩ := blk_at hx8 7 (v := .int .i64 b0.asked) rfl
        obtain ⟨z0, -⟩ := blk_at hx8 0 (v := .int .i64 b0.err) rfl
        obtain ⟨z10, -⟩ := blk_at hx8 10 (v := .bool b0.found) rfl
        rw [← A1.out] at z7
        rw [← A2.out, herr] at z0
        rw [A4.out, hh0] at z10
        obtain ⟨s1, -⟩ := blk_at hs8.blk 1 (v := .slice ao x.asked cap) rfl
        have HX8 := Lib.hid hx8
        have HAS := Lib.hid (fun n => (asked_any (.slice ao x.asked cap) x.asked w.heap.size (W8.drewN n) (by have := (hs8.to (below_drewN (Below.refl _ _) n)).asked; rwa [List.length_range] at this) (by have := hak; omega)).mono (fun e w' (hp : e = .returned (.bool true) ∧ W8.drewN n = w') => (⟨hp.1, hp.2.symm⟩ : e = .returned (.bool true) ∧ w' = W8.drewN n)))
        have HER := Lib.hid (fun n => (Err_any (hi8.to (below_drewN (Below.refl _ _) n))).mono (fun e w' (hp : e = .returned (.int .i64 x.err) ∧ W8.drewN n = w') => (⟨hp.1, hp.2.symm⟩ : e = .returned (.int .i64 x.err) ∧ w' = W8.drewN n)))
        rw [herr] at HER
        clear hb58 hs8 hi8 hx8 hb7 hb8 y0 y7 y10
        go_wp2_with fail
        go_quiet ((first | (go_at_call 16; exact Calls.quiet_of_same (HAS.out _)) | (go_at_call 21; exact Calls.quiet_of_same (HER.out _))))
        go_wp2_with fail
        have Z0 : ∀ m : Bel W8, m.val.cell? ⟨w7.heap.size, 0, none⟩ = some (.int .i64 0) := fun m => bl_cell m.below z0
        have Z7 : ∀ m : Bel W8, m.val.cell? ⟨w7.heap.size, 7, none⟩ = some (.int .i64 x.asked) := fun m => bl_cell m.below z7
        have S1 : ∀ m : Bel W8, m.val.cell? ⟨S, 1, none⟩ = some (.slice ao x.asked cap) := fun m => bl_cell m.below s1
        have AG := Lib.hid (fun m : Bel W8 => calls_bel m (again_any (HI8.out.to m.below) (HS8.out.to m.below) (.inr hh0) (HB8.out.trans (m.below.mono HB8.out.size)).size))
        have AS := Lib.hid (fun m : Bel W8 => calls_bel m (calls_eq (asked_any (.slice ao x.asked cap) x.asked w.heap.size m.val (by have := (HS8.out.to m.below).asked; rwa [List.length_range] at this) (by have := hak; omega))))
        rw [herr] at AG
        clear z0 z7 z10 s1 HAS HER
        refine region_bel W8 (below_drewN (Below.refl _ _) _) (by kernel_rfl) (by kernel_rfl) ?_
        repeat (go_big_quiet_step ((first | exact AG.out _ | exact AS.out _)))

        refine wpQuiet_nil ?_
        intro m
        clear Z0 Z7 S1
        go_wp2_with fail
        go_ret
        exact ⟨rfl, HB8.out.trans (m.below.mono HB8.out.size)⟩
    · have c0 : (x.err != 0) = true := by simpa using herr
      go_wp2_with fail
      go_quiet (fail)
      have HBa := Lib.hid (fun W (hb : Below W5.heap.size W5 W) => behind_any _ tl t sep W ((Tv.ofOwn HS5.out.told).to hb) HSZ.out HIL.out (by omega) htI)
      rw [HB0.out] at HBa
      go_wp2_with fail
      refine (HBa.out _ (below_drewN (Below.refl _ _) _)).mono ?_
      rintro e w7 ⟨rfl, hb7⟩
      obtain ⟨W8, hW8⟩ : ∃ W, w7.alloc (.cells b0.cells 48) = W := ⟨_, rfl⟩
      have hx8 : XB W8 w7.heap.size b0 := by rw [← hW8]; exact heap_alloc_new _ _
      have hb8 : Below w7.heap.size w7 W8 := by rw [← hW8]; exact bl_alloc _ _
      have hb58 := bl_to (bl_to (below_drewN (Below.refl W5.heap.size W5) _) hb7) hb8
      have HB8 := Lib.hid (bl_to HB5.out hb58)
      have hs8 := HS5.out.to hb58
      have hi8 := HX5.out.to hb58
      have HI8 := Lib.hid hi8
      have HS8 := Lib.hid hs8
      obtain ⟨z7, -⟩ := blk_at hx8 7 (v := .int .i64 b0.asked) rfl
      obtain ⟨z0, -⟩ := blk_at hx8 0 (v := .int .i64 b0.err) rfl
      obtain ⟨z10, -⟩ := blk_at hx8 10 (v := .bool b0.found) rfl
      rw [← A1.out] at z7
      rw [← A2.out] at z0
      obtain ⟨s1, -⟩ := blk_at hs8.blk 1 (v := .slice ao x.asked cap) rfl
      have HX8 := Lib.hid hx8
      have HAS := Lib.hid (fun n => (asked_any (.slice ao x.asked cap) x.asked w.heap.size (W8.drewN n) (by have := (hs8.to (below_drewN (Below.refl _ _) n)).asked; rwa [List.length_range] at this) (by have := hak; omega)).mono (fun e w' (hp : e = .returned (.bool true) ∧ W8.drewN n = w') => (⟨hp.1, hp.2.symm⟩ : e = .returned (.bool true) ∧ w' = W8.drewN n)))
      have HER := Lib.hid (fun n => (Err_any (hi8.to (below_drewN (Below.refl _ _) n))).mono (fun e w' (hp : e = .returned (.int .i64 x.err) ∧ W8.drewN n = w') => (⟨hp.1, hp.2.symm⟩ : e = .returned (.int .i64 x.err) ∧ w' = W8.drewN n)))
      clear hb58 hs8 hi8 hx8 hb7 hb8 y0 y7 y10
      go_wp2_with fail
      go_quiet ((first | (go_at_call 16; exact Calls.quiet_of_same (HAS.out _)) | (go_at_call 21; exact Calls.quiet_of_same (HER.out _))))
      go_wp2_with fail
      have Z0 : ∀ m : Bel W8, m.val.cell? ⟨w7.heap.size, 0, none⟩ = some (.int .i64 x.err) := fun m => bl_cell m.below z0
      have Z7 : ∀ m : Bel W8, m.val.cell? ⟨w7.heap.size, 7, none⟩ = some (.int .i64 x.asked) := fun m => bl_cell m.below z7
      have S1 : ∀ m : Bel W8, m.val.cell? ⟨S, 1, none⟩ = some (.slice ao x.asked cap) := fun m => bl_cell m.below s1
      have AG := Lib.hid (fun m : Bel W8 => calls_bel m (again_any (HI8.out.to m.below) (HS8.out.to m.below) (.inl herr) (HB8.out.trans (m.below.mono HB8.out.size)).size))
      have AS := Lib.hid (fun m : Bel W8 => calls_bel m (calls_eq (asked_any (.slice ao x.asked cap) x.asked w.heap.size m.val (by have := (HS8.out.to m.below).asked; rwa [List.length_range] at this) (by have := hak; omega))))
      clear z0 z7 z10 s1 HAS HER
      refine region_bel W8 (below_drewN (Below.refl _ _) _) (by kernel_rfl) (by kernel_rfl) ?_
      repeat (go_big_quiet_step ((first | exact AG.out _ | exact AS.out _)))

      refine wpQuiet_nil ?_
      intro m
      clear Z0 Z7 S1
      go_wp2_with fail
      go_ret
      exact ⟨rfl, HB8.out.trans (m.below.mono HB8.out.size)⟩
end Go.Proofs.Ytlckloeeimilhaa
