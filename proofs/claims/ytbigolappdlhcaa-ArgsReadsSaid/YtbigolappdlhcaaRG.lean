/- The walk of the reference's Read. -/
import Derived.Test.YtbigolappdlhcaaRF
import Derived.Test.YtbigolappdlhcaaW
import Derived.Deep.DeepCutAuto
import Derived.Deep.CutBlock
import Derived.Deep.MidRow
namespace Go.Proofs.Ytbigolappdlhcaa
set_option linter.unusedSimpArgs false
set_option linter.unusedVariables false
open Go.RowKit

theorem seven_same {w : World} {b : Nat} (h : w.heap[b]? = some (.cells #[.bool false, .bool false, .bool false, .bool false, .string ⟨#[]⟩, .slice none 0 0, .slice none 0 0] 27 (0, 0))) : (sevenSet w b).heap[b]? = some (.cells #[.bool false, .bool false, .bool false, .bool false, .string ⟨#[]⟩, .slice none 0 0, .slice none 0 0] 27 (0, 0)) := by
  have h0 := heap_setCell_same w b 0 _ _ _ (.bool false) h
  have h1 := heap_setCell_same _ b 1 _ _ _ (.bool false) h0
  have h2 := heap_setCell_same _ b 2 _ _ _ (.bool false) h1
  have h3 := heap_setCell_same _ b 3 _ _ _ (.bool false) h2
  have h4 := heap_setCell_same _ b 4 _ _ _ (.string ⟨#[]⟩) h3
  have h5 := heap_setCell_same _ b 5 _ _ _ (.slice none 0 0) h4
  have h6 := heap_setCell_same _ b 6 _ _ _ (.slice none 0 0) h5
  exact h6
theorem seven_cell {w : World} {b c o : Nat} {v : Value} (hc : c ≠ b) (h : w.cell? ⟨c, o, none⟩ = some v) : (sevenSet w b).cell? ⟨c, o, none⟩ = some v := by
  have hne : ∀ k, (⟨c, o, none⟩ : Addr) ≠ ⟨b, k, none⟩ := fun k e => hc (by injection e)
  unfold sevenSet
  iterate 7 rw [World.cell?_setCell_other _ _ _ _ (by first | exact hne _ | exact Ne.symm (hne _))]
  exact h

theorem drew_cell {W : World} {p : Addr} {v : Value} (h : W.cell? p = some v) : W.drew.cell? p = some v := h

theorem read_good {w w' : World} {l : List ByteArray} {a : Av} {sv nv : Value} (h : readL l = (some a, 0, 0)) (h1 : w'.ownsRow w.heap.size 45 2 sv a.scr.length (a.scr.flatMap pcells)) (h2 : w'.ownsRow w.heap.size 9 1 nv a.nam.length (a.nam.map Value.string)) (hb : Below w.heap.size w w') :
    ReadPost w l (.returned (.tuple #[a.val sv nv, .int .i64 0, .int .i64 0])) w' := by
  refine ⟨sv, nv, ?_, ?_, ?_, hb⟩
  · rw [h]; rfl
  · rw [h]; exact h1
  · rw [h]; exact h2

set_option maxRecDepth 100000 in
set_option maxHeartbeats 12800000 in
theorem rread_core (ao : Option Addr) (cap : Nat) (l : List ByteArray) (w : World) (HT : Hid (Tx w (.slice ao l.length cap) l)) (HSZ : Hid (∀ s ∈ l, s.size ≤ 9223372036854775807)) (hle : l.length ≤ 65536) :
    Calls Try.prog 22 #[.slice ao l.length cap] w (ReadPost w l) := by
  have z1 : ¬ (65536 : Int) < (l.length : Int) := by omega
  have HR0 : Hid (readL l = endW l (readW l 0 zeroAv)) := by show readL l = _; unfold readL; rw [if_neg (by omega)]
  obtain ⟨R, hR⟩ : ∃ R, readW l 0 zeroAv = R := ⟨_, rfl⟩
  rw [hR] at HR0
  have hb0 := bl_to (bl_alloc w (.cells #[.bool false, .bool false, .bool false, .bool false, .string ⟨#[]⟩, .slice none 0 0, .slice none 0 0] 27)) (bl_alloc _ (.cells #[.slice ao l.length cap, .int .i64 0, .int .i64 (-1), .bool false, .bool false, .bool false, .bool false, .string ⟨#[]⟩, .slice none 0 0, .slice none 0 0] 65))
  have hz0 : ((w.alloc (.cells #[.bool false, .bool false, .bool false, .bool false, .string ⟨#[]⟩, .slice none 0 0, .slice none 0 0] 27)).alloc (.cells #[.slice ao l.length cap, .int .i64 0, .int .i64 (-1), .bool false, .bool false, .bool false, .bool false, .string ⟨#[]⟩, .slice none 0 0, .slice none 0 0] 65)).heap[w.heap.size]? = some (.cells #[.bool false, .bool false, .bool false, .bool false, .string ⟨#[]⟩, .slice none 0 0, .slice none 0 0] 27 (0, 0)) := by
    rw [heap_alloc_old _ _ (by simp)]; exact heap_alloc_new w _
  have hx0 : ((w.alloc (.cells #[.bool false, .bool false, .bool false, .bool false, .string ⟨#[]⟩, .slice none 0 0, .slice none 0 0] 27)).alloc (.cells #[.slice ao l.length cap, .int .i64 0, .int .i64 (-1), .bool false, .bool false, .bool false, .bool false, .string ⟨#[]⟩, .slice none 0 0, .slice none 0 0] 65)).heap[w.heap.size + 1]? = some (.cells #[.slice ao l.length cap, .int .i64 0, .int .i64 (-1), .bool false, .bool false, .bool false, .bool false, .string ⟨#[]⟩, .slice none 0 0, .slice none 0 0] 65 (0, 0)) := by
    exact heap_alloc_at _ _ _ (by simp)
  have HB := Lib.hid hb0
  have HZ := Lib.hid hz0
  have HX0 := Lib.hid hx0
  clear hb0 hz0 hx0
  go_enter Try.func22, Try.ntmps22
  go_upto_block 0 with (fail)
  generalize ((w.alloc (.cells #[.bool false, .bool false, .bool false, .bool false, .string ⟨#[]⟩, .slice none 0 0, .slice none 0 0] 27)).alloc (.cells #[.slice ao l.length cap, .int .i64 0, .int .i64 (-1), .bool false, .bool false, .bool false, .bool false, .string ⟨#[]⟩, .slice none 0 0, .slice none 0 0] 65)) = W2 at *
  have hW2 : w.heap.size + 1 ≤ W2.heap.size := Nat.le_of_lt (lt_of_block HX0.out)
  have HI : Hid (RJ W2 (w.heap.size + 1) (w.heap.size + 1) (.slice ao l.length cap) l R W2) := ⟨Below.refl _ _, hW2, .inl ⟨0, zeroAv, ⟨_, HX0.out, World.ownsRow_nil _ _ _ _, Nat.le_refl _⟩, Nat.le_refl _, Nat.zero_le _, hR⟩⟩
  have HM : Hid (∀ wr, Below (w.heap.size + 1) W2 wr → ∀ W, Below (w.heap.size + 1) wr W → Tx W (.slice ao l.length cap) l) := fun wr h1 W h2 => HT.out.to (HB.out.trans ((h1.trans h2).mono (by omega)))
  clear hR
  go_cut [6] (fun s6 wx => RK W2 (w.heap.size + 1) (w.heap.size + 1) (.slice ao l.length cap) l R wx)
  case first =>
    go_wp2_with fail
    go_loopw [6] (fun s6 wr => RJ W2 (w.heap.size + 1) (w.heap.size + 1) (.slice ao l.length cap) l R wr) (fun s6 wr => rdM l.length (w.heap.size + 1) wr)
    case atStart => exact HI.out
    case round =>
      clear HI
      obtain ⟨hb, hbs, hor⟩ := hrel
      have HBL := Lib.hid hb
      rcases hor with ⟨i, a, hr, hsl, hi, hR⟩ | ⟨k, at', a', hr, hR⟩
      · have HR := Lib.hid hr
        have HM0 : Hid (rdM l.length (w.heap.size + 1) wr = l.length + 1 - i) := by show _ = _; rw [rdM_eq hr, if_neg (by omega)]; omega
        obtain ⟨sv, h1, h2, h3⟩ := hr
        obtain ⟨b1, f1⟩ := blk_at h1 1 (v := .int .i64 i) rfl
        obtain ⟨b2, f2⟩ := blk_at h1 2 (v := .int .i64 (-1)) rfl
        have H1 := Lib.hid h1
        have H2 := Lib.hid h2
        clear h1 h2
        by_cases hlt : i < l.length
        · rw [readW, dif_pos hlt] at hR
          have hTx := HM.out wr hb wr (Below.refl _ _)
          obtain ⟨_, _, e1, hc1⟩ := hTx
          simp only [Value.slice.injEq, true_and] at e1
          obtain ⟨rfl, rfl⟩ := e1
          obtain ⟨b, off, rfl, hbl, hc⟩ := hc1 (by omega)
          have d0 := hc i hlt
          have hsz := HSZ.out _ (List.getElem_mem hlt)
          obtain ⟨t, ht⟩ : ∃ t, l[i] = t := ⟨_, rfl⟩
          rw [ht] at hR d0 hsz
          have HRR := Lib.hid hR
          have h0 : (0 : Int) ≤ (i : Int) := by omega
          have h1 : (i : Int) < (l.length : Int) := by omega
          have h2 := wrap_in ((i : Int) + 1) (by omega) (by omega)
          clear hc1 hc hR ht hb
          rcases kinds t with ⟨hk, rfl⟩ | ⟨n0, hh⟩
          · have HE : Hid (R = .inr (i + 1, a)) := HRR.out.symm.trans (if_pos hk)
            have k1 := RS.set (at' := (i : Int) + 1) (bad' := -1) (a' := a) H1.out H2.out h3 1 (.int .i64 ((i : Int) + 1)) rfl rfl
            have HN : Hid (RK W2 (w.heap.size + 1) (w.heap.size + 1) (.slice (some ⟨b, off, none⟩) l.length cap) l R (wr.setCell ⟨w.heap.size + 1, 1, none⟩ (.int .i64 ((i : Int) + 1)))) := ⟨HBL.out.trans k1.2.2.below, hbs, .inl ⟨i + 1, a, ⟨sv, k1.1, k1.2.1, h3⟩, by omega, by omega, HE.out⟩⟩
            clear k1 hk
            go_wp2_with fail
            go_meet
            case rel => exact HN.out
          · rcases hh with ⟨hk, n1⟩ | ⟨n1, hh⟩
            · have HE : Hid (R = .inr (i, a)) := HRR.out.symm.trans (by rw [hk]; rfl)
              clear hk
              go_wp2_with fail
              go_meet
              case rel => exact ⟨HBL.out, hbs, .inl ⟨i, a, HR.out, hsl, hi, HE.out⟩⟩
            · rcases hh with ⟨hk, he⟩ | ⟨n2, hs0, hh⟩
              · have HE : Hid (R = .inr (i, a)) := HRR.out.symm.trans (by rw [hk]; rfl)
                have n2 : (t.toList == []) = true := by rw [he, emp_toList]; rfl
                clear hk he
                go_wp2_with fail
                go_meet
                case rel => exact ⟨HBL.out, hbs, .inl ⟨i, a, HR.out, hsl, hi, HE.out⟩⟩
              · have g0 : (0 : Int) < (t.size : Int) := by omega
                rcases hh with ⟨hk, n3⟩ | ⟨n3, hs1, hh⟩
                · have HE : Hid (R = .inr (i, a)) := HRR.out.symm.trans (by rw [hk]; rfl)
                  clear hk
                  go_wp2_with fail
                  go_meet
                  case rel => exact ⟨HBL.out, hbs, .inl ⟨i, a, HR.out, hsl, hi, HE.out⟩⟩
                · have g1 : (1 : Int) < (t.size : Int) := by omega
                  rcases hh with ⟨hk, n4, hld⟩ | ⟨hk, n4⟩
                  · have HE : Hid ((if (longR a (tail2 t)).2.1 = false then .inl i else if (longR a (tail2 t)).1 < 0 then .inl l.length else readW l (i + 1 + (longR a (tail2 t)).1.toNat) (longR a (tail2 t)).2.2) = R) := by
                      show _ = R
                      rw [longR_read, ← HRR.out, hk]
                      rfl
                    have hls := longR_scr a (tail2 t)
                    have HLD := Lib.hid hld
                    clear hk hld
                    go_wp2_with fail
                    refine (rlong_any (w.heap.size + 1) (w.heap.size + 1) i _ l a t (tail2 t) _ hsz HLD.out HR.out (by omega) (by omega)).mono ?_
                    rintro e w5 hpost
                    obtain ⟨rfl, hrj, hms⟩ := next_of hpost HE.out hls.1 (.inl hls.2) hsl hlt HBL.out hbs
                    have HRJ := Lib.hid hrj
                    have HMS : Hid (rdM l.length (w.heap.size + 1) w5 < rdM l.length (w.heap.size + 1) wr) := by show _ < _; rw [HM0.out]; exact hms
                    clear hpost hrj hms hls
                    go_wp2_with fail
                    go_roundw
                    case rel => exact HRJ.out
                    case measure => exact HMS.out
                  · have HE : Hid ((if (shortF (tail1 t) (l.drop (i + 1)) (tail1 t).size a).2.1 = false then .inl i else if (shortF (tail1 t) (l.drop (i + 1)) (tail1 t).size a).1 < 0 then .inl l.length else readW l (i + 1 + (shortF (tail1 t) (l.drop (i + 1)) (tail1 t).size a).1.toNat) (shortF (tail1 t) (l.drop (i + 1)) (tail1 t).size a).2.2) = R) := by
                      show _ = R
                      rw [← HRR.out, hk]
                      rfl
                    have hls := shortF_scr (tail1 t) (l.drop (i + 1)) (tail1 t).size a
                    have HLS := Lib.hid hls
                    clear hk hls
                    go_wp2_with fail
                    refine (letters_any (w.heap.size + 1) (w.heap.size + 1) i _ cap l a t _ (by omega) hsz HR.out (by omega) (HM.out wr HBL.out) hlt (by omega)).mono ?_
                    rintro e w5 hpost
                    obtain ⟨rfl, hrj, hms⟩ := next_of hpost HE.out HLS.out.1 HLS.out.2.2.1 hsl hlt HBL.out hbs
                    have HRJ := Lib.hid hrj
                    have HMS : Hid (rdM l.length (w.heap.size + 1) w5 < rdM l.length (w.heap.size + 1) wr) := by show _ < _; rw [HM0.out]; exact hms
                    clear hpost hrj hms HLS
                    go_wp2_with fail
                    go_roundw
                    case rel => exact HRJ.out
                    case measure => exact HMS.out
        · have HE : Hid (R = .inr (i, a)) := by rw [readW, dif_neg hlt] at hR; exact hR.symm
          have h1 : ¬ (i : Int) < (l.length : Int) := by omega
          clear hR hb hlt
          go_wp2_with fail
          go_meet
          case rel => exact ⟨HBL.out, hbs, .inl ⟨i, a, HR.out, hsl, hi, HE.out⟩⟩
      · have HP : Hid (RK W2 (w.heap.size + 1) (w.heap.size + 1) (.slice ao l.length cap) l R wr) := ⟨hb, hbs, .inr ⟨k, at', a', hr, hR⟩⟩
        obtain ⟨sv, h1, h2, h3⟩ := hr
        obtain ⟨b1, f1⟩ := blk_at h1 1 (v := .int .i64 at') rfl
        obtain ⟨b2, f2⟩ := blk_at h1 2 (v := .int .i64 k) rfl
        have q0 : ¬ (k : Int) < 0 := by omega
        clear h1 h2 hR hb
        by_cases hlt : at' < (l.length : Int)
        · go_wp2_with fail
          go_meet
          case rel => exact HP.out
        · go_wp2_with fail
          go_meet
          case rel => exact HP.out
  case rest =>
    clear HI
    obtain ⟨hb, hbs, hor⟩ := hcut
    obtain ⟨wo, hwo⟩ : ∃ wo : World, wo = wc := ⟨_, rfl⟩
    subst hwo
    have HBW := Lib.hid (HB.out.trans (hb.mono (by omega)))
    have HZ1 := Lib.hid ((hb.block _ (by omega)).trans HZ.out)
    have HTW := Lib.hid (HM.out wo hb)
    clear hb
    rcases hor with ⟨i, a, hr, hsl, hi, hRi⟩ | ⟨k, at', a', hr, hRk⟩
    · have HR := Lib.hid hr
      have HRI := Lib.hid hRi
      obtain ⟨sv, h1, h2, h3⟩ := hr
      obtain ⟨sa, sc, rfl⟩ := row_slice h2
      obtain ⟨b1, f1⟩ := blk_at h1 1 (v := .int .i64 i) rfl
      obtain ⟨b2, f2⟩ := blk_at h1 2 (v := .int .i64 (-1)) rfl
      obtain ⟨b8, f8⟩ := blk_at h1 8 (v := .slice sa a.scr.length sc) rfl
      have q0 : ¬ (0 : Int) ≤ (-1 : Int) := by omega
      have h0 : (0 : Int) ≤ (i : Int) := by omega
      clear h1 h2 hRi
      go_upto_if 81 with (fail)
      go_cut [75] (fun s75 wx => ∃ (i' : Nat) (a' : Av), RS wx (w.heap.size + 1) (w.heap.size + 1) (.slice ao l.length cap) (i' : Int) (-1) a' ∧ i' ≤ l.length ∧ readL l = (some { a' with nam := l.drop i' }, 0, 0) ∧ Below (w.heap.size + 1) wo wx)
      case first =>
        cases hsc : a.scr with
        | cons p r =>
          have hne : (((p :: r).length : Int) == 0) = false := by simp; omega
          have HRD : Hid (readL l = (some { a with nam := l.drop i }, 0, 0)) := by
            show readL l = _
            rw [HR0.out, HRI.out]
            show (if a.scr = [] then _ else _) = _
            rw [if_neg (by rw [hsc]; simp)]
          rw [hsc] at b8
          clear hsc
          go_wp2_with fail
          go_meet
          case rel => exact ⟨i, a, HR.out, hi, HRD.out, Below.refl _ _⟩
        | nil =>
          rw [hsc] at b8
          have HSC := Lib.hid hsc
          clear hsc
          cases hdr : l.drop i with
          | nil =>
            have hil : i = l.length := by have := congrArg List.length hdr; rw [List.length_drop] at this; simp at this; omega
            have q1 : (l.length : Int) ≤ (i : Int) := by omega
            have HRD : Hid (readL l = (none, 260, l.length)) := by
              show readL l = _
              rw [HR0.out, HRI.out]
              show (if a.scr = [] then _ else _) = _
              rw [if_pos HSC.out, hdr]
            obtain ⟨t0, p0⟩ := blk_at HZ1.out 0 (v := .bool false) rfl
            obtain ⟨t1, p1⟩ := blk_at HZ1.out 1 (v := .bool false) rfl
            obtain ⟨t2, p2⟩ := blk_at HZ1.out 2 (v := .bool false) rfl
            obtain ⟨t3, p3⟩ := blk_at HZ1.out 3 (v := .bool false) rfl
            obtain ⟨t4, p4⟩ := blk_at HZ1.out 4 (v := .string ⟨#[]⟩) rfl
            obtain ⟨t5, p5⟩ := blk_at HZ1.out 5 (v := .slice none 0 0) rfl
            obtain ⟨t6, p6⟩ := blk_at HZ1.out 6 (v := .slice none 0 0) rfl
            have HS7 := Lib.hid (seven_below (b := w.heap.size) HBW.out (Nat.le_refl _))
            clear hdr hil
            go_wp2_with fail
            refine bodyPost_ret (v := .tuple #[.agg #[.bool false, .bool false, .bool false, .bool false, .string ⟨#[]⟩, .slice none 0 0, .slice none 0 0], .int .i64 260, .int .i64 l.length]) (by simp [results, Try.results22, go_sem, t0, t1, t2, t3, t4, t5, t6]) rfl ?_
            exact read_fail HRD.out HS7.out
          | cons t r =>
            have hlt : i < l.length := by have := congrArg List.length hdr; rw [List.length_drop] at this; simp at this; omega
            have q1 : (i : Int) < (l.length : Int) := by omega
            have q1n : ¬ (l.length : Int) ≤ (i : Int) := by omega
            have q2 := wrap_in ((i : Int) + 1) (by omega) (by omega)
            rw [List.drop_eq_getElem_cons hlt] at hdr
            obtain ⟨ht, hr⟩ := List.cons.inj hdr
            have HRD : Hid (readL l = (some { ({ a with scr := a.scr ++ [(false, t)] } : Av) with nam := l.drop (i + 1) }, 0, 0)) := by
              show readL l = _
              rw [HR0.out, HRI.out]
              show (if a.scr = [] then _ else _) = _
              rw [if_pos HSC.out, List.drop_eq_getElem_cons hlt, HSC.out, ht]
              rfl
            have hTx := HTW.out wo (Below.refl _ _)
            obtain ⟨_, _, e1, hc1⟩ := hTx
            simp only [Value.slice.injEq, true_and] at e1
            obtain ⟨rfl, rfl⟩ := e1
            obtain ⟨b, off, rfl, hbl, hc⟩ := hc1 (by omega)
            have d0 := hc i hlt
            rw [ht] at d0
            clear hc hc1 ht hr hdr
            have hlp : a.scr.length ≤ 200000 := by rw [HSC.out]; simp
            go_wp2_with fail
            refine (piece_any false HR.out hlp).mono ?_
            rintro e w5 ⟨rfl, hr5, hf5⟩
            obtain ⟨sv5, g1, g2, g3⟩ := hr5
            obtain ⟨y1, fy1⟩ := blk_at g1 1 (v := .int .i64 i) rfl
            have k1 := RS.set (at' := (i : Int) + 1) (bad' := -1) (a' := { a with scr := a.scr ++ [(false, t)] }) g1 g2 g3 1 (.int .i64 ((i : Int) + 1)) rfl rfl
            have HP : Hid (RS (w5.setCell ⟨w.heap.size + 1, 1, none⟩ (.int .i64 ((i : Int) + 1))) (w.heap.size + 1) (w.heap.size + 1) (.slice (some ⟨b, off, none⟩) l.length cap) ((i + 1 : Nat) : Int) (-1) { a with scr := a.scr ++ [(false, t)] } ∧ Below (w.heap.size + 1) wo (w5.setCell ⟨w.heap.size + 1, 1, none⟩ (.int .i64 ((i : Int) + 1)))) := ⟨⟨sv5, k1.1, k1.2.1, g3⟩, hf5.below.trans k1.2.2.below⟩
            clear g1 g2 k1 hf5
            go_wp2_with fail
            go_meet
            case rel => exact ⟨i + 1, _, HP.out.1, hlt, HRD.out, HP.out.2⟩
      case rest =>
        obtain ⟨i', a', hr', hi', hrd', hb'⟩ := hcut
        clear b1 f1 b2 f2 b8 f8 HR HRI
        have HRD := Lib.hid hrd'
        have HB' := Lib.hid hb'
        have hbsz : w.heap.size + 1 ≤ wo.heap.size := HBW.out.size |> fun h => by have := lt_of_block HZ1.out; have := HB'.out.size; omega
        obtain ⟨sv', h1, h2, h3⟩ := hr'
        obtain ⟨b1, f1⟩ := blk_at h1 1 (v := .int .i64 i') rfl
        obtain ⟨i9, hi9, hz90, hz91, hz92⟩ := info_parts info9
        have H0 : Hid (NJ wo (w.heap.size + 1) (w.heap.size + 1) (.slice ao l.length cap) (i' : Int) a' (l.drop i') 0 wc) := ⟨sv', .slice none 0 0, h1, h2, World.ownsRow_nil _ _ _ _, h3, HB'.out, hbsz⟩
        clear h1 h2 hrd' hb'
        go_wp2_with fail
        obtain ⟨w0, hw0⟩ : ∃ w0 : World, w0 = wc := ⟨_, rfl⟩
        rw [← hw0] at H0 ⊢
        clear hw0 b1 f1
        go_loopw [7] (fun s7 wr => ∃ (j m : Nat), Hid (j = i' + m) ∧ j ≤ l.length ∧ s7 = .int .i64 j ∧ NJ wo (w.heap.size + 1) (w.heap.size + 1) (.slice ao l.length cap) (i' : Int) a' (l.drop i') m wr) (fun s7 _ => l.length - (intOf s7).toNat)
        case atStart => exact ⟨i', 0, rfl, hi', rfl, H0.out⟩
        case round =>
          clear H0
          obtain ⟨j, m, HJM, hjl, rfl, sv, nv, g1, g2, g3, g4, g5, g6⟩ := hrel
          have hk0 : (0 : Int) ≤ (j : Int) := by omega
          by_cases hlt : j < l.length
          · have hTx := HTW.out wr g5
            obtain ⟨_, _, e1, hc1⟩ := hTx
            simp only [Value.slice.injEq, true_and] at e1
            obtain ⟨rfl, rfl⟩ := e1
            obtain ⟨b, off, rfl, hbl, hc⟩ := hc1 (by omega)
            have d0 := hc j hlt
            obtain ⟨t, ht⟩ : ∃ t, l[j] = t := ⟨_, rfl⟩
            rw [ht] at d0
            have hdl : m < (l.drop i').length := by have := HJM.out; rw [List.length_drop]; omega
            have hx : (l.drop i')[m] = t := by rw [List.getElem_drop, ← ht]; congr 1; exact HJM.out.symm
            have HX := Lib.hid hx
            have G1 := Lib.hid g1
            have G2 := Lib.hid g2
            have G3 := Lib.hid g3
            have G5 := Lib.hid g5
            have hk1 : (j : Int) < (l.length : Int) := by omega
            have hk2 := wrap_in ((j : Int) + 1) (by omega) (by omega)
            have h63 : m + 1 ≤ maxLen := by have := HJM.out; unfold maxLen; omega
            have hby : (m + 1) * 16 ≤ 140737488355328 := by have := HJM.out; omega
            have HJJ : Hid (j + 1 = i' + (m + 1)) := by have := HJM.out; show _ = _; omega
            clear hc1 hc ht hx g2 g3 g5
            go_wp2_with fail
            obtain ⟨y5, fy5⟩ := blk_at G1.out 9 (v := nv) rfl
            clear g1
            have ay : nv.ownBlock ≠ some (w.heap.size + 1) := row_ne G3.out G1.out (by decide)
            have ly := lt_of_block G1.out
            have HF : Hid (∀ {o : Obj} {w2 : World}, (wr.alloc o).drew.grownBy w2 nv.ownBlock → Fr (fun i => nv.ownBlock = some i) wr w2 ∧ w2.heap[w.heap.size + 1]? = some (.cells (RC (.slice (some ⟨b, off, none⟩) l.length cap) (i' : Int) (-1) a' sv nv) 65 (0, 0))) := fun {o w2} hg => by
              have hf : Fr (fun i => nv.ownBlock = some i) wr w2 := (((Fr.refl _ wr).alloc o).drew).trans (Fr.ofGrown hg) (fun i _ hi => hi)
              exact ⟨hf, (hf.block _ ly ay).trans G1.out⟩
            have e5 : ∀ o, (wr.alloc o).cell? ⟨w.heap.size + 1, 9, none⟩ = some nv := fun o => bl_cell (bl_alloc wr o) y5
            go_region_law
              ((refine step_append_lies _ (by rfl) _ _ _ (by rfl) (w.heap.size + 1) 9 i9 (.string ⟨#[]⟩) 1 16 Try.underlying25 hi9 hz90 hz91 hz92 rfl (by omega) nv m (((l.drop i').take m).map Value.string) (by rfl) ((G3.out.alloc _).drew) ⟨wr.heap.size, 0, none⟩ 1 1 [.string t] (by rfl) (by rfl) (World.news_of_block (cs := #[.string t]) (t := 9) (fr := (0, 0)) (heap_alloc_new wr _)) (by simp [Value.oneCell']) (by omega) h63 hby (by simp; omega) (wr.heap.size + 1) (by simp) ?_; intro g cap2 w2 hown hgrow hat hlt2; obtain ⟨hfr, hy2⟩ := HF.out hgrow; obtain ⟨c5, f5⟩ := blk_at hy2 9 (v := nv) rfl; have HFR := Lib.hid hfr; have HOWN := Lib.hid hown; clear hfr hy2 hown hgrow hat hlt2))
            all_goals
              clear c5 f5 e5
              go_wp2_with fail
              go_roundw
              case rel => exact ⟨j + 1, m + 1, HJJ, by omega, by go_num, NJ.nam G1.out G2.out G3.out g4 G5.out g6 hdl HX.out HFR.out HOWN.out⟩
              case measure => simp [intOf]; omega
          · obtain rfl : j = l.length := by omega
            have hmm : m = (l.drop i').length := by have := HJM.out; rw [List.length_drop]; omega
            rw [hmm, List.take_of_length_le (Nat.le_refl _)] at g3
            obtain ⟨L, hL⟩ : ∃ L, l.drop i' = L := ⟨_, rfl⟩
            rw [hL] at g3 HRD
            clear hmm hL
            clear HJM m
            obtain ⟨so, sc, rfl⟩ := row_slice g2
            obtain ⟨no, nc, rfl⟩ := row_slice g3
            have HZ4 := (g5.block w.heap.size (by have := lt_of_block HZ1.out; omega)).trans HZ1.out
            have HWB := Lib.hid (HBW.out.trans (g5.mono (by omega)))
            have HZ5 := Lib.hid HZ4
            have G2 := Lib.hid g2
            have G3 := Lib.hid g3
            have q1 : ¬ (l.length : Int) < (l.length : Int) := by omega
            obtain ⟨y0, fy0⟩ := blk_at g1 3 (v := .bool a'.q) rfl
            obtain ⟨y1, fy1⟩ := blk_at g1 4 (v := .bool a'.e) rfl
            obtain ⟨y2, fy2⟩ := blk_at g1 5 (v := .bool a'.s) rfl
            obtain ⟨y3, fy3⟩ := blk_at g1 6 (v := .bool a'.i) rfl
            obtain ⟨y4, fy4⟩ := blk_at g1 7 (v := .string a'.suf) rfl
            obtain ⟨y5, fy5⟩ := blk_at g1 8 rfl
            obtain ⟨y6, fy6⟩ := blk_at g1 9 rfl
            have HRG : Hid (wr.rangeAt (w.heap.size + 1) 3 [.bool a'.q, .bool a'.e, .bool a'.s, .bool a'.i, .string a'.suf, .slice so a'.scr.length sc, .slice no L.length nc]) := by
              intro j v hv
              match j, hv with
              | 0, hv => obtain rfl := Option.some.inj hv; exact y0
              | 1, hv => obtain rfl := Option.some.inj hv; exact y1
              | 2, hv => obtain rfl := Option.some.inj hv; exact y2
              | 3, hv => obtain rfl := Option.some.inj hv; exact y3
              | 4, hv => obtain rfl := Option.some.inj hv; exact y4
              | 5, hv => obtain rfl := Option.some.inj hv; exact y5
              | 6, hv => obtain rfl := Option.some.inj hv; exact y6
              | n + 7, hv => cases hv
            clear y0 y1 y2 y3 y4 y5 y6 fy0 fy1 fy2 fy3 fy4 fy5 fy6
            obtain ⟨t0, p0⟩ := blk_at HZ4 0 (v := .bool false) rfl
            obtain ⟨t1, p1⟩ := blk_at HZ4 1 (v := .bool false) rfl
            obtain ⟨t2, p2⟩ := blk_at HZ4 2 (v := .bool false) rfl
            obtain ⟨t3, p3⟩ := blk_at HZ4 3 (v := .bool false) rfl
            obtain ⟨t4, p4⟩ := blk_at HZ4 4 (v := .string ⟨#[]⟩) rfl
            obtain ⟨t5, p5⟩ := blk_at HZ4 5 (v := .slice none 0 0) rfl
            obtain ⟨t6, p6⟩ := blk_at HZ4 6 (v := .slice none 0 0) rfl
            clear g1 g2 g3 g5 HZ4 hlt hjl q1
            go_wp2_with (refine wpList_load_mid (by rfl) 27 (.tmp 135) (by rfl) (w.heap.size + 1) 3 (by rfl) [.bool a'.q, .bool a'.e, .bool a'.s, .bool a'.i, .string a'.suf, .slice so a'.scr.length sc, .slice no L.length nc] _ HRG.out Try.underlying27 (by rfl) (by kernel_rfl) ?_)
            refine bodyPost_ret (v := .tuple #[.agg #[.bool a'.q, .bool a'.e, .bool a'.s, .bool a'.i, .string a'.suf, .slice so a'.scr.length sc, .slice no L.length nc], .int .i64 0, .int .i64 0]) (by simp [results, Try.results22, go_sem, t0, t1, t2, t3, t4, t5, t6]) rfl ?_
            have hf := (((((((Fr.refl (fun i => i = w.heap.size) wr).setCell (p := ⟨w.heap.size, 0, none⟩) rfl (.bool a'.q)).setCell (p := ⟨w.heap.size, 1, none⟩) rfl (.bool a'.e)).setCell (p := ⟨w.heap.size, 2, none⟩) rfl (.bool a'.s)).setCell (p := ⟨w.heap.size, 3, none⟩) rfl (.bool a'.i)).setCell (p := ⟨w.heap.size, 4, none⟩) rfl (.string a'.suf)).setCell (p := ⟨w.heap.size, 5, none⟩) rfl (.slice so a'.scr.length sc)).setCell (p := ⟨w.heap.size, 6, none⟩) rfl (.slice no L.length nc)
            have r2 := (row_fr hf G2.out (fun g hg e => by subst e; exact row_ne G2.out HZ5.out (by decide) hg))
            have r3 := (row_fr hf G3.out (fun g hg e => by subst e; exact row_ne G3.out HZ5.out (by decide) hg))
            exact read_good (a := { a' with nam := L }) HRD.out (row_base r2 (Nat.le_succ _)) (row_base r3 (Nat.le_succ _)) (HWB.out.trans (hf.toBelow HWB.out.size (fun i _ h => by omega)))

    · have HRD : Hid (readL l = (none, 260, k)) := by show readL l = _; rw [HR0.out, hRk]; rfl
      obtain ⟨sv, h1, h2, h3⟩ := hr
      obtain ⟨b2, f2⟩ := blk_at h1 2 (v := .int .i64 k) rfl
      have q0 : (0 : Int) ≤ (k : Int) := by omega
      clear h1 h2 hRk
      go_wp2_with fail
      obtain ⟨t0, p0⟩ := blk_at HZ1.out 0 (v := .bool false) rfl
      obtain ⟨t1, p1⟩ := blk_at HZ1.out 1 (v := .bool false) rfl
      obtain ⟨t2, p2⟩ := blk_at HZ1.out 2 (v := .bool false) rfl
      obtain ⟨t3, p3⟩ := blk_at HZ1.out 3 (v := .bool false) rfl
      obtain ⟨t4, p4⟩ := blk_at HZ1.out 4 (v := .string ⟨#[]⟩) rfl
      obtain ⟨t5, p5⟩ := blk_at HZ1.out 5 (v := .slice none 0 0) rfl
      obtain ⟨t6, p6⟩ := blk_at HZ1.out 6 (v := .slice none 0 0) rfl
      have HS7 : Hid (Below w.heap.size w (sevenSet wo w.heap.size).drew) := (seven_below (b := w.heap.size) HBW.out (Nat.le_refl _)).drew
      have HRG : Hid (wo.rangeAt (w.heap.size + 1) 2 [.int .i64 k]) := by
        intro j v hv
        match j, hv with
        | 0, hv => obtain rfl := Option.some.inj hv; exact b2
        | n + 1, hv => cases hv
      have hzB : wo.drew.heap[w.heap.size]? = some (.cells #[.bool false, .bool false, .bool false, .bool false, .string ⟨#[]⟩, .slice none 0 0, .slice none 0 0] 27 (0, 0)) := HZ1.out
      have s2 := drew_cell (seven_cell (w := wo) (b := w.heap.size) (c := w.heap.size + 1) (o := 2) (v := .int .i64 k) (by omega) b2)
      unfold sevenSet at s2
      have HSX : Below w.heap.size w (sevenSet wo w.heap.size).drew := HS7.out
      unfold sevenSet at HSX
      have s1 : wo.drew.cell? ⟨w.heap.size + 1, 2, none⟩ = some (.int .i64 k) := b2
      clear hzB
      go_region_held3 (fun w' => w'.cell? ⟨w.heap.size + 1, 2, none⟩ = some (.int .i64 k))
        (first | (with_reducible exact s1) | (with_reducible exact s2))
        (fail)
      go_wp2_with fail
      refine bodyPost_ret (v := .tuple #[.agg #[.bool false, .bool false, .bool false, .bool false, .string ⟨#[]⟩, .slice none 0 0, .slice none 0 0], .int .i64 260, .int .i64 k]) (by simp [results, Try.results22, go_sem, t0, t1, t2, t3, t4, t5, t6]) rfl ?_
      exact read_fail HRD.out HSX

theorem rread_any (v : Value) (l : List ByteArray) (w : World) (h : Tz w v l) (hsz : ∀ s ∈ l, s.size ≤ 9223372036854775807) : Calls Try.prog 22 #[v] w (ReadPost w l) := by
  have HT := Lib.hid h.tx
  have HSZ := Lib.hid hsz
  obtain ⟨ao, cap, rfl, hc⟩ := h.tx
  by_cases hbig : 65536 < l.length
  · have z1 : (65536 : Int) < (l.length : Int) := by omega
    have HRD : Hid (readL l = (none, 3, 0)) := by show readL l = _; unfold readL; rw [if_pos hbig]
    have HB := Lib.hid (bl_alloc w (.cells #[.bool false, .bool false, .bool false, .bool false, .string ⟨#[]⟩, .slice none 0 0, .slice none 0 0] 27))
    clear hc hbig h hsz
    go_enter Try.func22, Try.ntmps22
    go_wp2_with fail
    refine bodyPost_ret (v := .tuple #[.agg #[.bool false, .bool false, .bool false, .bool false, .string ⟨#[]⟩, .slice none 0 0, .slice none 0 0], .int .i64 3, .int .i64 0]) (by simp [results, Try.results22, go_sem]) rfl ?_
    exact read_fail (k := 0) HRD.out HB.out
  · exact rread_core ao cap l w HT HSZ (by omega)
end Go.Proofs.Ytbigolappdlhcaa
