/- The walk of Behind. -/
import Derived.Test.YtlckloeeimilhaaT
namespace Go.Proofs.Ytlckloeeimilhaa
set_option linter.unusedSimpArgs false
set_option linter.unusedVariables false
open Go.RowKit

set_option maxRecDepth 100000 in
set_option maxHeartbeats 12800000 in
theorem behind_any (v : Value) (tl : List Tl) (t : Nat) (sep : Bool) (w : World) (h : Tv w v tl) (hs : ∀ d ∈ tl, d.1.size ≤ 4194304) (hI : (itemsE 0 tl).length ≤ 4194304) (htl : tl.length ≤ 4194304) (ht : t ≤ (itemsE 0 tl).length) :
    Calls Try.prog 20 #[v, .int .i64 t, .bool sep] w fun e w' => e = .returned (behB tl t sep).val ∧ Below w.heap.size w w' := by
  have HA := Lib.hid (fun W (hb : Below w.heap.size w W) => ahead_any v tl W (h.to hb) hs hI htl)
  obtain ⟨I, hIe⟩ : ∃ I, itemsE 0 tl = I := ⟨_, rfl⟩
  obtain ⟨E, hEe⟩ : ∃ E, endE 0 tl = E := ⟨_, rfl⟩
  have hEl : E ≤ tl.length := by have := endE_le tl 0; omega
  have HIN : Hid (∀ x ∈ I, x.2.1 < tl.length ∧ ∃ d, tl[x.2.1]? = some (d, 0)) := fun x hx => by
    rw [← hIe] at hx
    have := itemsE_in tl 0 x hx
    exact ⟨by omega, by simpa using this.2.2⟩
  rw [hIe, hEe] at HA
  rw [hIe] at hI ht
  have HH := Lib.hid h
  obtain ⟨va, vc, rfl, hvc, _⟩ := h
  have HBE : Hid (∀ b, b = behB tl t sep → b = behB tl t sep) := fun b h => h
  have HIE := Lib.hid hIe
  have HEE := Lib.hid hEe
  have HB0 := Lib.hid (bl_alloc w (.cells bs0.cells 48))
  have HZ0 := Lib.hid (heap_alloc_new w (.cells bs0.cells 48))
  have hi0 : (I.length : Int) ≤ 4194304 := by omega
  have htl0 : (tl.length : Int) ≤ 4194304 := by omega
  clear hs hIe hEe
  go_enter Try.func20, Try.ntmps20
  go_wp2_with fail
  refine (HA.out _ HB0.out).mono ?_
  rintro e w1 ⟨u, rfl, hu, hb1⟩
  obtain ⟨uo, uc, rfl, _, _⟩ := row_shape hu
  have hz1 := (hb1.block _ (lt_of_block HZ0.out)).trans HZ0.out
  have hz2 := heap_alloc_new w1 (.cells #[.int .i64 0, .bool false, .int .i64 0, .int .i64 0, .bool false, .bool false, .string ⟨#[]⟩, .int .i64 tl.length, .string ⟨#[]⟩, .bool false, .bool false] 48)
  have hb2 := bl_alloc w1 (.cells #[.int .i64 0, .bool false, .int .i64 0, .int .i64 0, .bool false, .bool false, .string ⟨#[]⟩, .int .i64 tl.length, .string ⟨#[]⟩, .bool false, .bool false] 48)
  have HBW := Lib.hid (bl_to HB0.out (bl_to hb1 hb2))
  have HK : Hid (BK (w1.alloc (.cells #[.int .i64 0, .bool false, .int .i64 0, .int .i64 0, .bool false, .bool false, .string ⟨#[]⟩, .int .i64 tl.length, .string ⟨#[]⟩, .bool false, .bool false] 48)) w1.heap.size (.slice va tl.length vc) tl uo uc I (w.alloc (.cells bs0.cells 48)).heap.size) := by
    refine ⟨HH.out.to HBW.out, hu.to hb2, ?_, ⟨{ bs0 with asked := tl.length }, hz2⟩⟩
    intro b off n c hh hn e
    obtain ⟨_, _, e1, _, hc⟩ := HH.out
    simp only [Value.slice.injEq] at e1 hh
    obtain ⟨rfl, e2, rfl⟩ := hh
    obtain ⟨rfl, _, _⟩ := e1
    obtain ⟨g, o, hg, hl, _⟩ := hc (by omega)
    simp only [Option.some.injEq, Addr.mk.injEq] at hg
    obtain ⟨rfl, _⟩ := hg
    have := bl_to HB0.out hb1
    have := this.size
    omega
  have HZ2 := Lib.hid ((hb2.block _ (lt_of_block hz1)).trans hz1)
  have HX : w.heap.size < w1.heap.size := lt_of_block hz1
  have HW : Hid (BW (w1.alloc (.cells #[.int .i64 0, .bool false, .int .i64 0, .int .i64 0, .bool false, .bool false, .string ⟨#[]⟩, .int .i64 tl.length, .string ⟨#[]⟩, .bool false, .bool false] 48)) w1.heap.size { bs0 with asked := tl.length } (w1.alloc (.cells #[.int .i64 0, .bool false, .int .i64 0, .int .i64 0, .bool false, .bool false, .string ⟨#[]⟩, .int .i64 tl.length, .string ⟨#[]⟩, .bool false, .bool false] 48))) := ⟨Fr.refl _ _, hz2⟩
  clear hz1 hz2 hb1 hb2 hu HA HB0 HZ0
  go_upto_if 27 with (fail)
  generalize (w1.alloc (.cells #[.int .i64 0, .bool false, .int .i64 0, .int .i64 0, .bool false, .bool false, .string ⟨#[]⟩, .int .i64 tl.length, .string ⟨#[]⟩, .bool false, .bool false] 48)) = W2 at *
  obtain ⟨X, hX⟩ : ∃ X, w1.heap.size = X := ⟨_, rfl⟩
  obtain ⟨B, hB⟩ : ∃ B, (w.alloc (.cells bs0.cells 48)).heap.size = B := ⟨_, rfl⟩
  rw [hX] at HK HW HX ⊢
  rw [hB] at HK
  clear hX hB
  obtain ⟨A, hAe⟩ : ∃ A, aske I E tl.length t = A := ⟨_, rfl⟩
  obtain ⟨R, hRe⟩ : ∃ R, erre I E tl t = R := ⟨_, rfl⟩
  have hAl : A ≤ tl.length := by rw [← hAe, ← HIE.out, ← HEE.out]; exact aske_le tl t
  have HAE := Lib.hid hAe
  have HRE := Lib.hid hRe
  clear hAe hRe
  go_cut [34] (fun s34 wx => BW W2 X { bs0 with err := R, asked := A } wx)
  case first =>
    by_cases hlt : t < I.length
    · obtain ⟨g, rfl, hc⟩ := HK.out.it HW.out (by omega)
      have c2 := (hc t hlt).2.2
      have hin := (HIN.out I[t] (List.getElem_mem hlt)).1
      have hA : A = I[t].2.1 + 1 := by rw [← HAE.out]; unfold aske; rw [dif_pos hlt]
      have hR : R = 0 := by rw [← HRE.out]; unfold erre; rw [if_pos hlt]
      obtain ⟨kk, hkk⟩ : ∃ kk, I[t].2.1 = kk := ⟨_, rfl⟩
      rw [hkk] at c2 hin hA
      have hd : decide (t < I.length) = true := decide_eq_true hlt
      have hw1 := wrap_in ((kk : Int) + 1) (by omega) (by omega)
      have hj : (t : Int) < (I.length : Int) := by omega
      have HQ : Hid (BW W2 X { bs0 with err := R, asked := A } (W2.setCell ⟨X, 7, none⟩ (.int .i64 ((kk : Int) + 1)))) := HW.out.set 7 _ _ (by subst hA hR; simp [bs0])
      obtain ⟨f0, f1⟩ := blk_at HW.out.blk 7 (v := .int .i64 tl.length) rfl
      clear hc hkk hA hR
      go_wp2_with fail
      go_meet
      case rel => exact HQ.out
    · have hd : decide (t < I.length) = false := decide_eq_false hlt
      by_cases hE : E < tl.length
      · have hA : A = E + 1 := by rw [← HAE.out]; unfold aske; rw [dif_neg hlt, if_pos hE]
        have hR : R = tl[E].2 := by rw [← HRE.out]; unfold erre; rw [if_neg hlt, dif_pos hE]
        have hd2 : decide (E < tl.length) = true := decide_eq_true hE
        have hw1 := wrap_in ((E : Int) + 1) (by omega) (by omega)
        have hQ1 : BW W2 X { bs0 with asked := A } (W2.setCell ⟨X, 7, none⟩ (.int .i64 ((E : Int) + 1))) := HW.out.set 7 _ _ (by subst hA; simp [bs0])
        obtain ⟨g, off, rfl, hc⟩ := HK.out.tl hQ1 (by omega)
        have c1 := (hc E hE).2
        rw [← hR] at c1
        have HQ : Hid (BW W2 X { bs0 with err := R, asked := A } ((W2.setCell ⟨X, 7, none⟩ (.int .i64 ((E : Int) + 1))).setCell ⟨X, 0, none⟩ (.int .i64 R))) := hQ1.set 0 _ _ rfl
        obtain ⟨f0, f1⟩ := blk_at HW.out.blk 7 (v := .int .i64 tl.length) rfl
        obtain ⟨f2, f3⟩ := blk_at hQ1.blk 0 (v := .int .i64 0) rfl
        have hj : (E : Int) < (tl.length : Int) := by omega
        clear hc hA hR hQ1
        go_wp2_with fail
        go_meet
        case rel => exact HQ.out
      · have hA : A = tl.length := by rw [← HAE.out]; unfold aske; rw [dif_neg hlt, if_neg hE]
        have hR : R = 0 := by rw [← HRE.out]; unfold erre; rw [if_neg hlt, dif_neg hE]
        have hd2 : decide (E < tl.length) = false := decide_eq_false hE
        have HQ : Hid (BW W2 X { bs0 with err := R, asked := A } W2) := by subst hA hR; exact HW.out
        clear hA hR
        go_wp2_with fail
        go_meet
        case rel => exact HQ.out
  case rest =>
    have hwc := hcut
    have HC := Lib.hid hwc
    have hXw : w.heap.size ≤ X := by omega
    obtain ⟨x7, -⟩ := blk_at hwc.blk 7 (v := .int .i64 A) rfl
    have hA0 : (A : Int) ≤ (vc : Int) := by omega
    have H0 : Hid (BW W2 X { bs0 with err := R, asked := A, passed := passe tl 0 } wc) := hwc
    clear hcut hwc HW
    go_wp2_with fail
    clear x7
    go_loopw [53] (fun s53 wr => ∃ j : Nat, j ≤ A ∧ s53 = .int .i64 j ∧ BW W2 X { bs0 with err := R, asked := A, passed := passe tl j } wr) (fun s53 _ => A - (intOf s53).toNat)
    case atStart => exact ⟨0, Nat.zero_le _, rfl, H0.out⟩
    case round =>
      clear H0 HC
      obtain ⟨j, hj, rfl, hw⟩ := hrel
      have HW := Lib.hid hw
      by_cases hlt : j < A
      · obtain ⟨g, off, rfl, hc⟩ := HK.out.tl hw (by omega)
        obtain ⟨d0, d1⟩ := hc j (by omega)
        have hps := passe_succ tl j (by omega)
        obtain ⟨x, hx⟩ : ∃ x, tl[j]'(by omega) = x := ⟨_, rfl⟩
        rw [hx] at d0 d1 hps
        obtain ⟨d, y⟩ := x
        simp only at d0 d1 hps
        have hj1 : (j : Int) < (A : Int) := by omega
        obtain ⟨p, hp⟩ : ∃ p, passe tl j = p := ⟨_, rfl⟩
        rw [hp] at hw HW hps
        have HPS := Lib.hid hps
        obtain ⟨x5, f5⟩ := blk_at hw.blk 5 (v := .bool p) rfl
        have hw2 := hw.to (bl_alloc wr (.cells #[.string d, .int .i64 y] 32))
        obtain ⟨z5, g5⟩ := blk_at hw2.blk 5 (v := .bool p) rfl
        have HW2 := Lib.hid hw2
        clear hc hx hps hp hw hw2
        cases p with
        | true =>
          have HQ : Hid (BW W2 X { bs0 with err := R, asked := A, passed := passe tl (j + 1) } ((wr.alloc (.cells #[.string d, .int .i64 y] 32)).setCell ⟨X, 5, none⟩ (.bool true))) := HW2.out.set 5 _ _ (by rw [HPS.out]; rfl)
          go_wp2_with fail
          go_roundw
          case rel => exact ⟨j + 1, by omega, by go_num, HQ.out⟩
          case measure => simp [intOf]; omega
        | false =>
          have HQ : Hid (BW W2 X { bs0 with err := R, asked := A, passed := passe tl (j + 1) } ((wr.alloc (.cells #[.string d, .int .i64 y] 32)).setCell ⟨X, 5, none⟩ (.bool (y == 31)))) := HW2.out.set 5 _ _ (by rw [HPS.out]; rfl)
          go_wp2_with fail
          go_roundw
          case rel => exact ⟨j + 1, by omega, by go_num, HQ.out⟩
          case measure => simp [intOf]; omega
      · obtain rfl : j = A := by omega
        have hx1 : ¬ (j : Int) < (j : Int) := by omega
        obtain ⟨x10, f10⟩ := blk_at hw.blk 10 (v := .bool false) rfl
        obtain ⟨wq, hwq⟩ : ∃ W, wr.setCell ⟨X, 10, none⟩ (.bool (decide (t < I.length))) = W := ⟨_, rfl⟩
        have hq : BW W2 X { bs0 with err := R, asked := j, passed := passe tl j, found := decide (t < I.length) } wq := by rw [← hwq]; exact hw.set 10 _ _ rfl
        have HQ := Lib.hid hq
        clear hw HW hq
        by_cases ht0 : t = 0
        · subst ht0
          have HBQ : Hid (behB tl 0 sep = { bs0 with err := R, asked := j, passed := passe tl j, found := decide (0 < I.length) }) := by
            show _ = _
            unfold behB
            simp only [HIE.out, HEE.out, HAE.out, HRE.out]
            rw [dif_neg (by omega)]
          have hzz := (HQ.out.fr.block w.heap.size (lt_of_block HZ2.out) (fun e => by have e' : w.heap.size = X := e; omega)).trans HZ2.out
          obtain ⟨t0, r0⟩ := blk_at hzz 0 (v := .int .i64 0) rfl
          obtain ⟨t1, r1⟩ := blk_at hzz 1 (v := .bool false) rfl
          obtain ⟨t2, r2⟩ := blk_at hzz 2 (v := .int .i64 0) rfl
          obtain ⟨t3, r3⟩ := blk_at hzz 3 (v := .int .i64 0) rfl
          obtain ⟨t4, r4⟩ := blk_at hzz 4 (v := .bool false) rfl
          obtain ⟨t5, r5⟩ := blk_at hzz 5 (v := .bool false) rfl
          obtain ⟨t6, r6⟩ := blk_at hzz 6 (v := .string ⟨#[]⟩) rfl
          obtain ⟨t7, r7⟩ := blk_at hzz 7 (v := .int .i64 0) rfl
          obtain ⟨t8, r8⟩ := blk_at hzz 8 (v := .string ⟨#[]⟩) rfl
          obtain ⟨t9, r9⟩ := blk_at hzz 9 (v := .bool false) rfl
          obtain ⟨t10, r10⟩ := blk_at hzz 10 (v := .bool false) rfl
          obtain ⟨y0, -⟩ := blk_at HQ.out.blk 0 rfl
          obtain ⟨y1, -⟩ := blk_at HQ.out.blk 1 rfl
          obtain ⟨y2, -⟩ := blk_at HQ.out.blk 2 rfl
          obtain ⟨y3, -⟩ := blk_at HQ.out.blk 3 rfl
          obtain ⟨y4, -⟩ := blk_at HQ.out.blk 4 rfl
          obtain ⟨y5, -⟩ := blk_at HQ.out.blk 5 rfl
          obtain ⟨y6, -⟩ := blk_at HQ.out.blk 6 rfl
          obtain ⟨y7, -⟩ := blk_at HQ.out.blk 7 rfl
          obtain ⟨y8, -⟩ := blk_at HQ.out.blk 8 rfl
          obtain ⟨y9, -⟩ := blk_at HQ.out.blk 9 rfl
          obtain ⟨y10, -⟩ := blk_at HQ.out.blk 10 rfl
          have HBF : Hid (Below w.heap.size w wq) := HBW.out.trans (HQ.out.fr.toBelow HBW.out.size (fun i _ e => by have e' : i = X := e; omega))
          clear hzz
          go_wp2_with fail
          refine bodyPost_ret (v := ({ bs0 with err := R, asked := j, passed := passe tl j, found := decide (0 < I.length) } : BS).val) (by simp [results, Try.results20, go_sem, t0, t1, t2, t3, t4, t5, t6, t7, t8, t9, t10]) rfl ?_
          exact ⟨by rw [HBQ.out], (((((((((((HBF.out.setCell (Nat.le_refl _) _).setCell (Nat.le_refl _) _).setCell (Nat.le_refl _) _).setCell (Nat.le_refl _) _).setCell (Nat.le_refl _) _).setCell (Nat.le_refl _) _).setCell (Nat.le_refl _) _).setCell (Nat.le_refl _) _).setCell (Nat.le_refl _) _).setCell (Nat.le_refl _) _).setCell (Nat.le_refl _) _)⟩
        · obtain ⟨s, hs1⟩ : ∃ s, t = s + 1 := ⟨t - 1, by omega⟩
          have hsI : s < I.length := by omega
          obtain ⟨gu, rfl, hic⟩ := HK.out.it HQ.out (by omega)
          obtain ⟨c0, c1, c2⟩ := hic s hsI
          have hin := HIN.out I[s] (List.getElem_mem hsI)
          obtain ⟨x, hx⟩ : ∃ x, I[s] = x := ⟨_, rfl⟩
          rw [hx] at c0 c1 c2 hin
          obtain ⟨⟨lt, lb⟩, kk, mm⟩ := x
          simp only at c0 c1 c2 hin
          obtain ⟨hkl, dd, hdd⟩ := hin
          have HX1 := Lib.hid hx
          have HS1 := Lib.hid hs1
          have HDD := Lib.hid hdd
          have ht1 : ((t : Int) == 0) = false := by simp; omega
          have hws := show IntKind.i64.wrap ((t : Int) - 1) = (s : Int) by rw [wrap_in _ (by omega) (by omega)]; omega
          have hs0 : (s : Int) < (I.length : Int) := by omega
          have hkl2 : (kk : Int) < (tl.length : Int) := by omega
          obtain ⟨W3, hW3⟩ : ∃ W, wq.alloc (.cells #[.string lt, .bool lb, .int .i64 kk] 67) = W := ⟨_, rfl⟩
          obtain ⟨N, hN⟩ : ∃ N, wq.heap.size = N := ⟨_, rfl⟩
          have hb3 : Below wq.heap.size wq W3 := by rw [← hW3]; exact bl_alloc _ _
          have hn3 : W3.heap[N]? = some (.cells #[.string lt, .bool lb, .int .i64 kk] 67 (0, 0)) := by rw [← hW3, ← hN]; exact heap_alloc_new _ _
          have hNX : N ≠ X := by have := lt_of_block HQ.out.blk; omega
          have q3 := HQ.out.to hb3
          obtain ⟨n0, -⟩ := blk_at hn3 0 (v := .string lt) rfl
          obtain ⟨n1, -⟩ := blk_at hn3 1 (v := .bool lb) rfl
          obtain ⟨a8, f8⟩ := blk_at q3.blk 8 (v := .string ⟨#[]⟩) rfl
          obtain ⟨a9, f9⟩ := blk_at q3.blk 9 (v := .bool false) rfl
          obtain ⟨W4, hW4⟩ : ∃ W, (W3.setCell ⟨X, 8, none⟩ (.string lt)).setCell ⟨X, 9, none⟩ (.bool lb) = W := ⟨_, rfl⟩
          have q4 : BW W2 X { bs0 with err := R, asked := j, passed := passe tl j, found := decide (t < I.length), lt := lt, lw := lb } W4 := by rw [← hW4]; exact (q3.set 8 (.string lt) { bs0 with err := R, asked := j, passed := passe tl j, found := decide (t < I.length), lt := lt } rfl).set 9 (.bool lb) _ rfl
          have hn4 : W4.heap[N]? = some (.cells #[.string lt, .bool lb, .int .i64 kk] 67 (0, 0)) := by rw [← hW4, Below.heap_setCell _ _ _ _ hNX, Below.heap_setCell _ _ _ _ hNX]; exact hn3
          obtain ⟨n2, -⟩ := blk_at hn4 2 (v := .int .i64 kk) rfl
          obtain ⟨a3, f3⟩ := blk_at q4.blk 3 (v := .int .i64 0) rfl
          obtain ⟨W5, hW5⟩ : ∃ W, W4.setCell ⟨X, 3, none⟩ (.int .i64 kk) = W := ⟨_, rfl⟩
          have q5 : BW W2 X { bs0 with err := R, asked := j, passed := passe tl j, found := decide (t < I.length), lt := lt, lw := lb, at_ := kk } W5 := by rw [← hW5]; exact q4.set 3 _ _ rfl
          have hn5 : W5.heap[N]? = some (.cells #[.string lt, .bool lb, .int .i64 kk] 67 (0, 0)) := by rw [← hW5, Below.heap_setCell _ _ _ _ hNX]; exact hn4
          obtain ⟨n25, -⟩ := blk_at hn5 2 (v := .int .i64 kk) rfl
          obtain ⟨gv, ov, rfl, htc⟩ := HK.out.tl q5 (by omega)
          have d0 := (htc kk hkl).1
          have hdk : tl[kk].1 = dd := by
            rw [List.getElem?_eq_getElem hkl] at hdd
            simp only [Option.some.injEq] at hdd
            rw [hdd]
          rw [hdk] at d0
          obtain ⟨a6, f6⟩ := blk_at q5.blk 6 (v := .string ⟨#[]⟩) rfl
          obtain ⟨W6, hW6⟩ : ∃ W, W5.setCell ⟨X, 6, none⟩ (.string dd) = W := ⟨_, rfl⟩
          have q6 : BW W2 X { bs0 with err := R, asked := j, passed := passe tl j, found := decide (t < I.length), lt := lt, lw := lb, at_ := kk, data := dd } W6 := by rw [← hW6]; exact q5.set 6 _ _ rfl
          have hn6 : W6.heap[N]? = some (.cells #[.string lt, .bool lb, .int .i64 kk] 67 (0, 0)) := by rw [← hW6, Below.heap_setCell _ _ _ _ hNX]; exact hn5
          have Q6 := Lib.hid q6
          have N6 := Lib.hid hn6
          clear hic hx hs1 hdd hb3 hn3 q3 hn4 q4 hn5 q5 htc hdk q6 hn6 HQ
          obtain ⟨LB, hLB⟩ : ∃ LB, (decide (t = I.length) || (sep && (I[t]?.map (fun y => y.2.1 != kk)).getD false)) = LB := ⟨_, rfl⟩
          obtain ⟨FB, hFB⟩ : ∃ FB, (decide (1 < t) && (I[t - 2]?.map (fun y => y.2.1 != kk)).getD false) = FB := ⟨_, rfl⟩
          have HLB := Lib.hid hLB
          have HFB := Lib.hid hFB
          clear hLB hFB
          go_upto_region 21 with (fail)
          clear n0 n1 a8 f8 a9 f9 n2 a3 f3 n25 d0 a6 f6 c0 c1 c2 hW3 hW4 hW5 hW6 hN hwq hws
          go_cut [96] (fun s96 wx => BW W2 X { bs0 with err := R, asked := j, passed := passe tl j, found := decide (t < I.length), lt := lt, lw := lb, at_ := kk, data := dd, last := LB } wx ∧ wx.heap[N]? = some (.cells #[.string lt, .bool lb, .int .i64 kk] 67 (0, 0)))
          case first =>
            refine region_tail 18 (by kernel_rfl) (by kernel_rfl) (fun W hW0 => ?_)
            have QW := Q6.out.to hW0
            have NW := (hW0.block _ (lt_of_block N6.out)).trans N6.out
            obtain ⟨m2, -⟩ := blk_at NW 2 (v := .int .i64 kk) rfl
            clear hW0
            by_cases htl' : t = I.length
            · have hv : LB = true := by rw [← HLB.out, htl']; simp
              have e1 : ((t : Int) == (I.length : Int)) = true := by simp; omega
              clear htl'
              have q7 : BW W2 X { bs0 with err := R, asked := j, passed := passe tl j, found := decide (t < I.length), lt := lt, lw := lb, at_ := kk, data := dd, last := LB } (W.setCell ⟨X, 1, none⟩ (.bool true)) := QW.set 1 (.bool true) { bs0 with err := R, asked := j, passed := passe tl j, found := decide (t < I.length), lt := lt, lw := lb, at_ := kk, data := dd, last := LB } (by rw [hv]; rfl)
              have n7 : (W.setCell ⟨X, 1, none⟩ (.bool true)).heap[N]? = some (.cells #[.string lt, .bool lb, .int .i64 kk] 67 (0, 0)) := (Below.heap_setCell W ⟨X, 1, none⟩ (.bool true) N hNX).trans NW
              obtain ⟨z, fz⟩ := blk_at QW.blk 1 (v := .bool false) rfl
              have Q7 := Lib.hid q7
              have N7 := Lib.hid n7
              clear q7 n7 QW NW
              refine wpStill_of_quiet _ _ ?_
              simp only [List.take_succ_cons, List.take_zero, List.drop_succ_cons, List.drop_zero]
              repeat (go_big_quiet_step (fail))
              refine wpQuiet_nil ?_
              go_wp2_with fail
              go_meet
              case rel => exact ⟨Q7.out, N7.out⟩
            · have e1 : ((t : Int) == (I.length : Int)) = false := by simp; omega
              have htI : t < I.length := by omega
              have e2 : (t : Int) < (I.length : Int) := by omega
              obtain ⟨g, hg, hic⟩ := HK.out.it QW (by omega)
              simp only [Option.some.injEq, Addr.mk.injEq, and_true] at hg
              subst hg
              obtain ⟨-, -, i2⟩ := hic t htI
              have hit : I[t]? = some I[t] := List.getElem?_eq_getElem htI
              obtain ⟨x, hx⟩ : ∃ x, I[t] = x := ⟨_, rfl⟩
              rw [hx] at i2 hit
              obtain ⟨xl, xk, xm⟩ := x
              simp only at i2
              clear hic
              cases sep with
              | false =>
                have hv : LB = false := by rw [← HLB.out]; simp [htl']
                clear hit hx htl'
                have q7 : BW W2 X { bs0 with err := R, asked := j, passed := passe tl j, found := decide (t < I.length), lt := lt, lw := lb, at_ := kk, data := dd, last := LB } (W.setCell ⟨X, 1, none⟩ (.bool false)) := QW.set 1 (.bool false) { bs0 with err := R, asked := j, passed := passe tl j, found := decide (t < I.length), lt := lt, lw := lb, at_ := kk, data := dd, last := LB } (by rw [hv]; rfl)
                have n7 : (W.setCell ⟨X, 1, none⟩ (.bool false)).heap[N]? = some (.cells #[.string lt, .bool lb, .int .i64 kk] 67 (0, 0)) := (Below.heap_setCell W ⟨X, 1, none⟩ (.bool false) N hNX).trans NW
                obtain ⟨z, fz⟩ := blk_at QW.blk 1 (v := .bool false) rfl
                have Q7 := Lib.hid q7
                have N7 := Lib.hid n7
                clear q7 n7 QW NW
                refine wpStill_of_quiet _ _ ?_
                simp only [List.take_succ_cons, List.take_zero, List.drop_succ_cons, List.drop_zero]
                repeat (go_big_quiet_step (fail))
                refine wpQuiet_nil ?_
                go_wp2_with fail
                go_meet
                case rel => exact ⟨Q7.out, N7.out⟩
              | true =>
                have hv : LB = ((xk : Int) != (kk : Int)) := by
                  rw [← HLB.out, hit, bne_cast]
                  simp [htl']
                clear hit hx htl'
                have q7 : BW W2 X { bs0 with err := R, asked := j, passed := passe tl j, found := decide (t < I.length), lt := lt, lw := lb, at_ := kk, data := dd, last := LB } (W.setCell ⟨X, 1, none⟩ (.bool ((xk : Int) != (kk : Int)))) := QW.set 1 (.bool ((xk : Int) != (kk : Int))) { bs0 with err := R, asked := j, passed := passe tl j, found := decide (t < I.length), lt := lt, lw := lb, at_ := kk, data := dd, last := LB } (by rw [hv]; rfl)
                have n7 : (W.setCell ⟨X, 1, none⟩ (.bool ((xk : Int) != (kk : Int)))).heap[N]? = some (.cells #[.string lt, .bool lb, .int .i64 kk] 67 (0, 0)) := (Below.heap_setCell W ⟨X, 1, none⟩ (.bool ((xk : Int) != (kk : Int))) N hNX).trans NW
                obtain ⟨z, fz⟩ := blk_at QW.blk 1 (v := .bool false) rfl
                have Q7 := Lib.hid q7
                have N7 := Lib.hid n7
                clear q7 n7 QW NW
                refine wpStill_of_quiet _ _ ?_
                simp only [List.take_succ_cons, List.take_zero, List.drop_succ_cons, List.drop_zero]
                repeat (go_big_quiet_step (fail))
                refine wpQuiet_nil ?_
                go_wp2_with fail
                go_meet
                case rel => exact ⟨Q7.out, N7.out⟩
          case rest =>
            obtain ⟨q7, n7⟩ := hcut
            have Q6' := Lib.hid q7
            have N6' := Lib.hid n7
            clear q7 n7 Q6 N6
            go_upto_region 22 with (fail)
            go_cut [112] (fun s112 wx => BW W2 X { bs0 with err := R, asked := j, passed := passe tl j, found := decide (t < I.length), lt := lt, lw := lb, at_ := kk, data := dd, last := LB, fresh := FB } wx ∧ wx.heap[N]? = some (.cells #[.string lt, .bool lb, .int .i64 kk] 67 (0, 0)))
            case first =>
              refine region_tail 14 (by kernel_rfl) (by kernel_rfl) (fun W hW0 => ?_)
              have QW := Q6'.out.to hW0
              have NW := (hW0.block _ (lt_of_block N6'.out)).trans N6'.out
              obtain ⟨m2, -⟩ := blk_at NW 2 (v := .int .i64 kk) rfl
              clear hW0
              by_cases h1t : 1 < t
              · have e1 : decide ((1 : Int) < (t : Int)) = true := decide_eq_true (by omega)
                obtain ⟨s2, hs2⟩ : ∃ s2, t = s2 + 2 := ⟨t - 2, by omega⟩
                have e2 : (s2 : Int) < (I.length : Int) := by omega
                have htI : s2 < I.length := by omega
                obtain ⟨g, hg, hic⟩ := HK.out.it QW (by omega)
                simp only [Option.some.injEq, Addr.mk.injEq, and_true] at hg
                subst hg
                obtain ⟨-, -, i2⟩ := hic s2 htI
                have hit : I[t - 2]? = some I[s2] := by rw [show t - 2 = s2 by omega]; exact List.getElem?_eq_getElem htI
                obtain ⟨x, hx⟩ : ∃ x, I[s2] = x := ⟨_, rfl⟩
                rw [hx] at i2 hit
                obtain ⟨xl, xk, xm⟩ := x
                simp only at i2
                have hv : FB = ((xk : Int) != (kk : Int)) := by
                  rw [← HFB.out, hit, bne_cast]
                  simp [h1t]
                have hws := show IntKind.i64.wrap ((t : Int) - 2) = (s2 : Int) by rw [wrap_in _ (by omega) (by omega)]; omega
                have e3 : (0 : Int) ≤ (s2 : Int) := by omega
                clear hit hx hic h1t hs2
                have q7 : BW W2 X { bs0 with err := R, asked := j, passed := passe tl j, found := decide (t < I.length), lt := lt, lw := lb, at_ := kk, data := dd, last := LB, fresh := FB } (W.setCell ⟨X, 4, none⟩ (.bool ((xk : Int) != (kk : Int)))) := QW.set 4 (.bool ((xk : Int) != (kk : Int))) { bs0 with err := R, asked := j, passed := passe tl j, found := decide (t < I.length), lt := lt, lw := lb, at_ := kk, data := dd, last := LB, fresh := FB } (by rw [hv]; rfl)
                have n7 : (W.setCell ⟨X, 4, none⟩ (.bool ((xk : Int) != (kk : Int)))).heap[N]? = some (.cells #[.string lt, .bool lb, .int .i64 kk] 67 (0, 0)) := (Below.heap_setCell W ⟨X, 4, none⟩ (.bool ((xk : Int) != (kk : Int))) N hNX).trans NW
                obtain ⟨z, fz⟩ := blk_at QW.blk 4 (v := .bool false) rfl
                have Q7 := Lib.hid q7
                have N7 := Lib.hid n7
                clear q7 n7 QW NW
                refine wpStill_of_quiet _ _ ?_
                simp only [List.take_succ_cons, List.take_zero, List.drop_succ_cons, List.drop_zero]
                repeat (go_big_quiet_step (fail))
                refine wpQuiet_nil ?_
                go_wp2_with fail
                go_meet
                case rel => exact ⟨Q7.out, N7.out⟩
              · have e1 : decide ((1 : Int) < (t : Int)) = false := decide_eq_false (by omega)
                have hv : FB = false := by rw [← HFB.out]; simp [h1t]
                clear h1t
                have q7 : BW W2 X { bs0 with err := R, asked := j, passed := passe tl j, found := decide (t < I.length), lt := lt, lw := lb, at_ := kk, data := dd, last := LB, fresh := FB } (W.setCell ⟨X, 4, none⟩ (.bool false)) := QW.set 4 (.bool false) { bs0 with err := R, asked := j, passed := passe tl j, found := decide (t < I.length), lt := lt, lw := lb, at_ := kk, data := dd, last := LB, fresh := FB } (by rw [hv]; rfl)
                have n7 : (W.setCell ⟨X, 4, none⟩ (.bool false)).heap[N]? = some (.cells #[.string lt, .bool lb, .int .i64 kk] 67 (0, 0)) := (Below.heap_setCell W ⟨X, 4, none⟩ (.bool false) N hNX).trans NW
                obtain ⟨z, fz⟩ := blk_at QW.blk 4 (v := .bool false) rfl
                have Q7 := Lib.hid q7
                have N7 := Lib.hid n7
                clear q7 n7 QW NW
                refine wpStill_of_quiet _ _ ?_
                simp only [List.take_succ_cons, List.take_zero, List.drop_succ_cons, List.drop_zero]
                repeat (go_big_quiet_step (fail))
                refine wpQuiet_nil ?_
                go_wp2_with fail
                go_meet
                case rel => exact ⟨Q7.out, N7.out⟩
            case rest =>
              obtain ⟨q8, n8⟩ := hcut
              have H0 : Hid (BW W2 X { bs0 with err := R, asked := j, passed := passe tl j, found := decide (t < I.length), lt := lt, lw := lb, at_ := kk, data := dd, last := LB, fresh := FB, num := cntE sep kk (I.take 0) } wc ∧ wc.heap[N]? = some (.cells #[.string lt, .bool lb, .int .i64 kk] 67 (0, 0))) := ⟨q8, n8⟩
              have hiuc : I.length ≤ uc := by
                obtain ⟨_, _, e1, hle, _⟩ := row_shape HK.out.row
                simp only [Value.slice.injEq, true_and] at e1
                obtain ⟨_, rfl⟩ := e1
                exact hle
              have htu : (t : Int) ≤ (uc : Int) := by omega
              have hlu : (I.length : Int) ≤ (uc : Int) := by omega
              clear q8 n8 Q6' N6'
              go_wp2_with fail
              clear ht1
              obtain ⟨we, hwe⟩ : ∃ W : World, W = wc := ⟨_, rfl⟩
              rw [← hwe] at H0 ⊢
              clear hwe
              go_loopw [128] (fun s128 wr => ∃ i : Nat, i ≤ t ∧ s128 = .int .i64 i ∧ BW W2 X { bs0 with err := R, asked := j, passed := passe tl j, found := decide (t < I.length), lt := lt, lw := lb, at_ := kk, data := dd, last := LB, fresh := FB, num := cntE sep kk (I.take i) } wr ∧ wr.heap[N]? = some (.cells #[.string lt, .bool lb, .int .i64 kk] 67 (0, 0))) (fun s128 _ => t - (intOf s128).toNat)
              case atStart => exact ⟨0, Nat.zero_le _, rfl, H0.out⟩
              case round =>
                clear H0
                obtain ⟨i, hi, rfl, q8, n8⟩ := hrel
                have Q8 := Lib.hid q8
                have N8 := Lib.hid n8
                by_cases hlt : i < t
                · have hiI : i < I.length := by omega
                  obtain ⟨g, hg, hic⟩ := HK.out.it q8 (by omega)
                  simp only [Option.some.injEq, Addr.mk.injEq, and_true] at hg
                  subst hg
                  obtain ⟨i0, i1, i2⟩ := hic i hiI
                  have hct := cntE_succ sep kk I i hiI
                  have hcl := cntE_le sep kk (I.take i)
                  have hcl2 : (I.take i).length ≤ i := List.length_take_le _ _
                  obtain ⟨x, hx⟩ : ∃ x, I[i] = x := ⟨_, rfl⟩
                  rw [hx] at i0 i1 i2 hct
                  obtain ⟨⟨xt, xb⟩, xk, xm⟩ := x
                  simp only at i0 i1 i2 hct
                  have hi1 : (i : Int) < (t : Int) := by omega
                  obtain ⟨cn, hcn⟩ : ∃ cn, cntE sep kk (I.take i) = cn := ⟨_, rfl⟩
                  rw [hcn] at q8 Q8 hct hcl
                  have q9 := q8.to (bl_alloc wr (.cells #[.string xt, .bool xb, .int .i64 xk] 67))
                  have n9 := ((bl_alloc wr (.cells #[.string xt, .bool xb, .int .i64 xk] 67)).block _ (lt_of_block n8)).trans n8
                  obtain ⟨m2, -⟩ := blk_at n9 2 (v := .int .i64 kk) rfl
                  obtain ⟨x2, f2⟩ := blk_at q9.blk 2 (v := .int .i64 cn) rfl
                  have Q9 := Lib.hid q9
                  have N9 := Lib.hid n9
                  have HCT := Lib.hid hct
                  have hcn2 : (cn : Int) ≤ 4194304 := by omega
                  have hcn3 : (0 : Int) ≤ (cn : Int) := by omega
                  clear q8 n8 q9 n9 hic hx hcn hct hcl hcl2
                  by_cases hk : (!sep || xk == kk) = true
                  · have HQ9 : Hid (BW W2 X { bs0 with err := R, asked := j, passed := passe tl j, found := decide (t < I.length), lt := lt, lw := lb, at_ := kk, data := dd, last := LB, fresh := FB, num := cntE sep kk (I.take (i + 1)) } ((wr.alloc (.cells #[.string xt, .bool xb, .int .i64 xk] 67)).setCell ⟨X, 2, none⟩ (.int .i64 ((cn : Int) + 1)))) := Q9.out.set 2 _ _ (by rw [HCT.out, if_pos hk]; rfl)
                    have HN9 : Hid (((wr.alloc (.cells #[.string xt, .bool xb, .int .i64 xk] 67)).setCell ⟨X, 2, none⟩ (.int .i64 ((cn : Int) + 1))).heap[N]? = some (.cells #[.string lt, .bool lb, .int .i64 kk] 67 (0, 0))) := (Below.heap_setCell _ ⟨X, 2, none⟩ _ N hNX).trans N9.out
                    cases sep with
                    | false =>
                      clear hk
                      go_wp2_with fail
                      go_roundw
                      case rel => exact ⟨i + 1, by omega, by go_num, HQ9.out, HN9.out⟩
                      case measure => simp [intOf]; omega
                    | true =>
                      have e1 : ((xk : Int) == (kk : Int)) = true := by simp at hk; simp; omega
                      clear hk
                      go_wp2_with fail
                      go_roundw
                      case rel => exact ⟨i + 1, by omega, by go_num, HQ9.out, HN9.out⟩
                      case measure => simp [intOf]; omega
                  · have HQ9 : Hid (BW W2 X { bs0 with err := R, asked := j, passed := passe tl j, found := decide (t < I.length), lt := lt, lw := lb, at_ := kk, data := dd, last := LB, fresh := FB, num := cntE sep kk (I.take (i + 1)) } (wr.alloc (.cells #[.string xt, .bool xb, .int .i64 xk] 67))) := by show BW _ _ _ _; rw [HCT.out, if_neg hk]; exact Q9.out
                    cases sep with
                    | false => simp at hk
                    | true =>
                      have e1 : ((xk : Int) == (kk : Int)) = false := by simp at hk; simp; omega
                      clear hk
                      go_wp2_with fail
                      go_roundw
                      case rel => exact ⟨i + 1, by omega, by go_num, HQ9.out, N9.out⟩
                      case measure => simp [intOf]; omega
                · obtain rfl : i = t := by omega
                  have hx1 : ¬ (i : Int) < (i : Int) := by omega
                  have HBQ : Hid (behB tl i sep = { bs0 with err := R, asked := j, passed := passe tl j, found := decide (i < I.length), lt := lt, lw := lb, at_ := kk, data := dd, last := LB, fresh := FB, num := cntE sep kk (I.take i) }) := by
                    show _ = _
                    exact behB_pos HIE.out HEE.out HAE.out HRE.out HS1.out hsI HX1.out HDD.out HLB.out HFB.out
                  have HQ := Lib.hid q8
                  clear q8 n8 Q8 N8
                  have hzz := (HQ.out.fr.block w.heap.size (lt_of_block HZ2.out) (fun e => by have e' : w.heap.size = X := e; omega)).trans HZ2.out
                  obtain ⟨t0, r0⟩ := blk_at hzz 0 (v := .int .i64 0) rfl
                  obtain ⟨t1, r1⟩ := blk_at hzz 1 (v := .bool false) rfl
                  obtain ⟨t2, r2⟩ := blk_at hzz 2 (v := .int .i64 0) rfl
                  obtain ⟨t3, r3⟩ := blk_at hzz 3 (v := .int .i64 0) rfl
                  obtain ⟨t4, r4⟩ := blk_at hzz 4 (v := .bool false) rfl
                  obtain ⟨t5, r5⟩ := blk_at hzz 5 (v := .bool false) rfl
                  obtain ⟨t6, r6⟩ := blk_at hzz 6 (v := .string ⟨#[]⟩) rfl
                  obtain ⟨t7, r7⟩ := blk_at hzz 7 (v := .int .i64 0) rfl
                  obtain ⟨t8, r8⟩ := blk_at hzz 8 (v := .string ⟨#[]⟩) rfl
                  obtain ⟨t9, r9⟩ := blk_at hzz 9 (v := .bool false) rfl
                  obtain ⟨t10, r10⟩ := blk_at hzz 10 (v := .bool false) rfl
                  obtain ⟨y0, -⟩ := blk_at HQ.out.blk 0 rfl
                  obtain ⟨y1, -⟩ := blk_at HQ.out.blk 1 rfl
                  obtain ⟨y2, -⟩ := blk_at HQ.out.blk 2 rfl
                  obtain ⟨y3, -⟩ := blk_at HQ.out.blk 3 rfl
                  obtain ⟨y4, -⟩ := blk_at HQ.out.blk 4 rfl
                  obtain ⟨y5, -⟩ := blk_at HQ.out.blk 5 rfl
                  obtain ⟨y6, -⟩ := blk_at HQ.out.blk 6 rfl
                  obtain ⟨y7, -⟩ := blk_at HQ.out.blk 7 rfl
                  obtain ⟨y8, -⟩ := blk_at HQ.out.blk 8 rfl
                  obtain ⟨y9, -⟩ := blk_at HQ.out.blk 9 rfl
                  obtain ⟨y10, -⟩ := blk_at HQ.out.blk 10 rfl
                  have HBF : Hid (Below w.heap.size w wr) := HBW.out.trans (HQ.out.fr.toBelow HBW.out.size (fun i _ e => by have e' : i = X := e; omega))
                  clear hzz
                  go_wp2_with fail
                  refine bodyPost_ret (v := ({ bs0 with err := R, asked := j, passed := passe tl j, found := decide (i < I.length), lt := lt, lw := lb, at_ := kk, data := dd, last := LB, fresh := FB, num := cntE sep kk (I.take i) } : BS).val) (by simp [results, Try.results20, go_sem, t0, t1, t2, t3, t4, t5, t6, t7, t8, t9, t10]) rfl ?_
                  exact ⟨by rw [HBQ.out], (((((((((((HBF.out.setCell (Nat.le_refl _) _).setCell (Nat.le_refl _) _).setCell (Nat.le_refl _) _).setCell (Nat.le_refl _) _).setCell (Nat.le_refl _) _).setCell (Nat.le_refl _) _).setCell (Nat.le_refl _) _).setCell (Nat.le_refl _) _).setCell (Nat.le_refl _) _).setCell (Nat.le_refl _) _).setCell (Nat.le_refl _) _)⟩
end Go.Proofs.Ytlckloeeimilhaa
