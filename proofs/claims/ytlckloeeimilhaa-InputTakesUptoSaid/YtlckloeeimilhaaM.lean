/- The walk of InputAll: the texts are told. -/
import Derived.Test.YtlckloeeimilhaaL
import Derived.Test.YtlckloeeimilhaaH
import Derived.Laws.AppendOwnNone
namespace Go.Proofs.Ytlckloeeimilhaa
set_option linter.unusedSimpArgs false
set_option linter.unusedVariables false
open Go.RowKit

theorem Rd.strs {w : World} {v : Value} {ts : List ByteArray} (h : Rd w v ts.length 1 (ts.map Value.string)) : ∃ ao cap, v = .slice ao ts.length cap ∧ (0 < ts.length → ∃ b off, ao = some ⟨b, off, none⟩ ∧ b < w.heap.size ∧ ∀ i (hi : i < ts.length), w.cell? ⟨b, off + i, none⟩ = some (.string ts[i])) := by
  obtain ⟨_, ao, cap, rfl, h2⟩ := h
  refine ⟨ao, cap, rfl, fun hn => ?_⟩
  obtain ⟨b, off, rfl, hl, hc⟩ := h2 hn
  exact ⟨b, off, rfl, hl, fun i hi => hc i _ (by simp [hi])⟩

theorem told_snoc (ts : List ByteArray) (j : Nat) (h : j < ts.length) : tcells (told (ts.take (j + 1))) = tcells (told (ts.take j)) ++ [.string ts[j], .int .i64 0] := by
  rw [List.take_succ_eq_append_getElem h, told, List.map_append, tcells_append]; rfl
theorem told_len (ts : List ByteArray) : (told ts).length = ts.length := by simp
theorem flat_snoc (ts : List ByteArray) (j : Nat) (h : j < ts.length) : (ts.take (j + 1)).flatMap splitL = (ts.take j).flatMap splitL ++ splitL ts[j] := by
  rw [List.take_succ_eq_append_getElem h, List.flatMap_append]; simp
theorem flat_take_le (ts : List ByteArray) (j : Nat) : ((ts.take j).flatMap splitL).length ≤ (ts.flatMap splitL).length := by
  conv => rhs; rw [← List.take_append_drop j ts, List.flatMap_append, List.length_append]
  omega

theorem lcells_one : ∀ (l : List Ln), ∀ u ∈ lcells l, u.oneCell' = true := by
  intro l
  induction l with
  | nil => intro u hu; simp [lcells] at hu
  | cons x r ih =>
    obtain ⟨t, b⟩ := x
    intro u hu
    simp only [lcells, List.mem_cons] at hu
    rcases hu with rfl | rfl | hu
    · rfl
    · rfl
    · exact ih u hu
/-- The state at the head of the first loop. -/
def TI (w : World) (base S : Nat) (ts : List ByteArray) (j : Nat) (wantv : Value) (wr : World) : Prop :=
  ∃ tv, wr.heap[S]? = some (.cells #[tv, .slice none 0 0] 28 (0, 0)) ∧ wr.ownsRow base 32 2 tv j (tcells (told (ts.take j))) ∧ Ls wr base wantv ((ts.take j).flatMap splitL) ∧ Below base w wr

def lastOf (x : IS) : Bool := decide (0 < x.taken) && (!x.has || (x.sep && (x.ni != x.ci)))
def lenOf : Value → Nat
  | .slice _ n _ => n
  | _ => 0
/-- The lines that were got grow. -/
theorem after_got {w5 w6 : World} {base B2 X S : Nat} {lv av tv gv wv : Value} {y : IS} {tl : List Tl} {al : List Nat} {dm fl : List Ln} (hi : Inp w5 base X S lv y) (hs : Src w5 base S tv av tl al) (hg : Ls w5 B2 gv dm) (hw : Ls w5 base wv fl)
    (hf : Fr (fun i => gv.ownBlock = some i) w5 w6) (ha : ∀ z, gv.ownBlock = some z → lv.ownBlock ≠ some z) (hl : ∀ z, wv.ownBlock = some z → z < B2) : Inp w6 base X S lv y ∧ Src w6 base S tv av tl al ∧ Ls w6 base wv fl := by
  refine ⟨⟨(hf.block X (lt_of_block hi.blk) (row_ne hg hi.blk (by decide))).trans hi.blk, hi.left.fr hf (fun z hz e => ha z e hz), hi.le⟩, ⟨(hf.block S (lt_of_block hs.blk) (row_ne hg hs.blk (by decide))).trans hs.blk, row_fr hf hs.told ?_, row_fr hf hs.asked ?_, hs.le⟩, row_fr hf hw ?_⟩
  · intro g hgg e
    obtain ⟨_, cs, hc⟩ := row_block hs.told hgg
    exact row_ne hg hc (by decide) e
  · intro g hgg e
    obtain ⟨_, cs, hc⟩ := row_block hs.asked hgg
    exact row_ne hg hc (by decide) e
  · intro g hgg e
    have h1 := hl g hgg
    have h2 := (hg.lt e).1
    omega

/-- What the loop of takes sees of a step: last, at, number, fresh. -/
theorem step_view {ts : List ByteArray} {sep : Bool} {x : IS} {done R : List Item} {l : Ln} {k m : Nat} {p : Option (Nat × Nat)} (h : LS 1048576 ts sep x done ((l, k, m) :: R) p) :
    ∃ (at_ num : Int) (lb fb : Bool), at_ = (if done = [] then -1 else x.ci) ∧ num = (if sep then (if done = [] then 0 else x.cn) else (done.length : Int)) ∧ lb = lastOf x ∧ fb = (decide (0 < x.taken) && (x.ni != x.ci)) ∧
      ((sep = true ∧ lb = false ∧ at_ = -1 ∧ num = 0 ∧ (m : Int) = 1 ∧ fb = false ∧ done.length = 0) ∨
       (sep = false ∧ lb = false ∧ at_ = -1 ∧ num = (done.length : Int) ∧ fb = false) ∨
       (sep = true ∧ lb = false ∧ at_ = (k : Int) ∧ num + 1 = (m : Int) ∧ 0 ≤ num ∧ fb = false) ∨
       (sep = false ∧ lb = false ∧ at_ = (k : Int) ∧ num = (done.length : Int) ∧ fb = false) ∨
       (sep = true ∧ lb = true ∧ 0 ≤ at_ ∧ at_ < (k : Int) ∧ (m : Int) = 1 ∧ fb = true) ∨
       (sep = false ∧ lb = false ∧ 0 ≤ at_ ∧ at_ < (k : Int) ∧ num = (done.length : Int) ∧ fb = true)) := by
  obtain ⟨n1, n2, n3, n4, n5, n6, n7, n8⟩ := h.nxt l k m R rfl
  refine ⟨_, _, _, _, rfl, rfl, rfl, rfl, ?_⟩
  have hch := h.ch
  have hsp := h.sp
  have htk := h.tak
  unfold lastOf
  rw [n1, n4, hsp, htk]
  rcases h.now with ⟨hd, hp⟩ | ⟨hd, k0, m0, hp, hci, hcn, _⟩
  · subst hd hp
    have hm : m = 1 := hch.1
    subst hm
    cases sep <;> simp
  · subst hp
    rw [hci, hcn]
    have hd0 : 0 < done.length := List.length_pos_iff.2 hd
    rcases hch.1 with ⟨e1, e2⟩ | ⟨e1, e2⟩
    · subst e1 e2
      cases sep <;> simp [hd, hd0]
    · subst e2
      have hne : ((k : Int) != (k0 : Int)) = true := by simp; omega
      cases sep <;> simp [hd, hd0, hne] <;> omega

/-- The state at the head of the loop of takes. -/
def AI (w : World) (base B2 X S : Nat) (ts : List ByteArray) (sep : Bool) (wantv gotv lastv atv numv : Value) (wr : World) : Prop :=
  ∃ (done rest : List Item) (p : Option (Nat × Nat)) (x : IS) (lv tv av : Value), LS 1048576 ts sep x done rest p ∧ lastv = .bool (lastOf x) ∧ atv = .int .i64 (if done = [] then -1 else x.ci) ∧ numv = .int .i64 (if sep then (if done = [] then 0 else x.cn) else (done.length : Int)) ∧
    Inp wr base X S lv x ∧ Src wr base S tv av (told ts) (List.range x.asked) ∧ Ls wr B2 gotv (done.map (·.1)) ∧ Ls wr base wantv (ts.flatMap splitL) ∧ Below base w wr ∧ (∀ z, gotv.ownBlock = some z → lv.ownBlock ≠ some z) ∧ (∀ z, wantv.ownBlock = some z → z < B2) ∧ B2 ≤ wr.heap.size ∧ base ≤ B2

set_option maxRecDepth 8000 in
set_option maxHeartbeats 6400000 in
theorem all_any (v : Value) (ts : List ByteArray) (sep : Bool) (w : World) (hv : Rd w v ts.length 1 (ts.map Value.string)) (hn : ts.length ≤ 1048576) (hC : ∀ t ∈ ts, t.size ≤ 1048576) (hF : (ts.flatMap splitL).length ≤ 1048576) :
    Calls Try.prog 3 #[v, .bool sep] w fun e w' => e = .returned (.bool true) ∧ Below w.heap.size w w' := by
  obtain ⟨ao, cap, rfl, hcells⟩ := hv.strs
  clear hv
  have HA := Lib.hid hcells
  clear hcells
  obtain ⟨i0, hi, hz0, hz1, hz2⟩ := info_parts info32
  obtain ⟨i7, hi7, hz70, hz71, hz72⟩ := info_parts info37
  go_enter Try.func3, Try.ntmps3
  go_wp2_with (go_at_call 6; refine (lives_any _).mono ?_; rintro e w1 ⟨rfl, hb1⟩)
  have h1 : TI w w.heap.size w1.heap.size ts 0 (.slice none 0 0) (w1.alloc (.cells #[.slice none 0 0, .slice none 0 0] 28)) :=
    ⟨_, heap_alloc_new w1 _, World.ownsRow_nil _ _ _ _, World.ownsRow_nil _ _ _ _, bl_to hb1 (bl_alloc w1 _)⟩
  have H1 := Lib.hid h1
  have hS : w.heap.size ≤ w1.heap.size := hb1.size
  generalize w1.heap.size = S at *
  clear h1 hb1
  go_loopw [6, 23] (fun wv iv wr => ∃ (j : Nat) (wantv : Value), wantv = wv ∧ j ≤ ts.length ∧ iv = .int .i64 j ∧ TI w w.heap.size S ts j wantv wr) (fun _ iv _ => ts.length - (intOf iv).toNat)
  case atStart => exact ⟨0, _, rfl, Nat.zero_le _, rfl, H1.out⟩
  case round =>
    obtain ⟨j, wantv, rfl, hj, rfl, tv, hSb, hrow, hwant, hbel⟩ := hrel
    clear H1
    by_cases hlt : j < ts.length
    · obtain ⟨b, off, rfl, hbl, hc⟩ := HA.out (by omega)
      have k0 := (hbel.cell (p := ⟨b, off + j, none⟩) hbl).trans (hc j hlt)
      have hsz := hC _ (List.getElem_mem hlt)
      have hsn := told_snoc ts j hlt
      have hfs := flat_snoc ts j hlt
      have hfl := flat_take_le ts (j + 1)
      rw [hfs, List.length_append] at hfl
      generalize ts[j] = t at *
      generalize tcells (told (ts.take j)) = tc at *
      generalize (ts.take j).flatMap splitL = fl at *
      have HSN := Lib.hid hsn
      have HFS := Lib.hid hfs
      have HSb := Lib.hid hSb
      have HR := Lib.hid hrow
      have HW := Lib.hid hwant
      have HBL := Lib.hid hbel
      have d0 := (blk_at hSb 0 (v := tv) rfl).1
      have e0 : ∀ o, (wr.alloc o).cell? ⟨S, 0, none⟩ = some tv := fun o => bl_cell (bl_alloc wr o) d0
      have h63 : j + 1 ≤ maxLen := by unfold maxLen; omega
      have hby : (j + 1) * 24 ≤ 140737488355328 := by omega
      have hws := hbel.size
      clear hSb hrow hwant hbel hc hsn hfs
      go_wp2_with (at_builtin; go_must (refine wpList_append_lies _ rfl (.tmp 31) (.tmp 34) 25 rfl w.heap.size 32 i0 (.agg #[(.string ⟨#[]⟩), (.int .i64 0)]) 2 24 Try.underlying25 hi hz0 hz1 hz2 rfl (by decide) tv j tc rfl (row_to (bl_alloc wr _) HR.out) ⟨wr.heap.size, 0, none⟩ 1 1 [.string t, .int .i64 0] rfl rfl (cells_two wr _ _ 32) (by intro u hu; simp at hu; rcases hu with rfl | rfl <;> rfl) (by omega) h63 hby (by simp; omega) (wr.heap.size + 1) (by simp) ?_))
      intro g2 cap2 w3 hown hgrow hat hlt2
      have hf2 : Fr (fun i => tv.ownBlock = some i) wr w3 := ((Fr.refl _ wr).alloc _).trans (Fr.ofGrown hgrow) (fun i _ hi => hi)
      have hS3 := (hf2.block _ (lt_of_block HSb.out) (row_ne HR.out HSb.out (by decide))).trans HSb.out
      have hW3 : Ls w3 w.heap.size wantv fl := row_fr hf2 HW.out (fun g hg e => by
        obtain ⟨_, cs, hc⟩ := row_block HW.out hg
        exact row_ne HR.out hc (by decide) e)
      have hb3 := HBL.out.trans (hf2.toBelow hws (fun i _ hi => (World.ownsRow.lt HR.out i hi).1))
      obtain ⟨y0, y1⟩ := blk_at hS3 0 (v := tv) rfl
      have hfs : Fr (fun i => i = S) w3 (w3.setCell ⟨S, 0, none⟩ (.slice (some ⟨g2, 0, none⟩) (j + 1) cap2)) := (Fr.refl (fun i => i = S) w3).setCell (p := ⟨S, 0, none⟩) rfl _
      have hS4 : (w3.setCell ⟨S, 0, none⟩ (.slice (some ⟨g2, 0, none⟩) (j + 1) cap2)).heap[S]? = some (.cells #[.slice (some ⟨g2, 0, none⟩) (j + 1) cap2, .slice none 0 0] 28 (0, 0)) := heap_setCell_same _ _ _ _ _ _ _ hS3
      have HS4 := Lib.hid hS4
      have HR4 := Lib.hid (row_fr hfs hown (fun g hg e => by have e2 : g = S := e; subst e2; exact row_ne hown hS3 (by decide) hg))
      have HW4 : Hid (Ls (w3.setCell ⟨S, 0, none⟩ (.slice (some ⟨g2, 0, none⟩) (j + 1) cap2)) w.heap.size wantv fl) := row_fr hfs hW3 (fun g hg e => by have e2 : g = S := e; subst e2; exact row_ne hW3 hS3 (by decide) hg)
      have HB4 := Lib.hid (hb3.setCell (p := ⟨S, 0, none⟩) hS (.slice (some ⟨g2, 0, none⟩) (j + 1) cap2))
      clear hown hgrow hat hlt2 hf2 hS3 hW3 hb3 hfs hS4 d0 e0 k0
      go_wp2_with fail
      generalize w3.setCell ⟨S, 0, none⟩ (.slice (some ⟨g2, 0, none⟩) (j + 1) cap2) = W4 at *
      refine (Split_any t _ (by omega)).mono ?_
      rintro e w5 ⟨sv, rfl, hsv, hb5⟩
      have hB5 := HB4.out.trans (hb5.mono HB4.out.size)
      have HRS : Hid (∀ W' wv', Below w.heap.size w W' → W'.heap[S]? = some (.cells #[.slice (some ⟨g2, 0, none⟩) (j + 1) cap2, .slice none 0 0] 28 (0, 0)) → W'.ownsRow w.heap.size 32 2 (.slice (some ⟨g2, 0, none⟩) (j + 1) cap2) (j + 1) (tc ++ [.string t, .int .i64 0]) → Ls W' w.heap.size wv' (fl ++ splitL t) → TI w w.heap.size S ts (j + 1) wv' W') := fun W' wv' a1 a2 a3 a4 => ⟨_, a2, by rw [HSN.out]; exact a3, by rw [HFS.out]; exact a4, a1⟩
      have hS5 := (hb5.block _ (lt_of_block HS4.out)).trans HS4.out
      have hR5 := row_to hb5 HR4.out
      have hW5 := HW4.out.to hb5
      rcases hsv.2 with ⟨hse, hs0⟩ | ⟨g, scap, cur, hse, hgb, hg, hle, hm, hcs, htk⟩
      · subst hse
        have hnil : splitL t = [] := List.eq_nil_of_length_eq_zero hs0
        have HF := Lib.hid (HRS.out w5 wantv hB5 hS5 hR5 (by rw [hnil, List.append_nil]; exact hW5))
        clear hS5 hR5 hB5 hsv hb5
        go_wp2_with (at_builtin; go_must (refine wpList_append_own_none rfl (.tmp 38) (.tmp 40) 29 rfl w.heap.size 37 i7 2 Try.underlying29 hi7 wantv _ _ rfl hW5 rfl ?_))
        clear hW5
        go_wp2_with fail
        go_roundw
        case rel => exact ⟨j + 1, _, rfl, by omega, by go_num, HF.out⟩
        case measure => simp [intOf]; omega
      · subst hse
        have hnews := World.ownsRow.cells hsv (g := g) rfl
        have h63' : fl.length + (splitL t).length ≤ maxLen := by unfold maxLen; omega
        have hby' : (fl.length + (splitL t).length) * 24 ≤ 140737488355328 := by omega
        have hlc := lcells_length (splitL t)
        have HS5 := Lib.hid hS5
        have HR5 := Lib.hid hR5
        have HB5 := Lib.hid hB5
        clear hS5 hR5 hB5 hsv hb5 htk hcs hm
        go_wp2_with (at_builtin; go_must (refine wpList_append_own _ rfl (.tmp 38) (.tmp 40) 29 rfl w.heap.size 37 i7 (.agg #[(.string ⟨#[]⟩), (.bool false)]) 2 24 Try.underlying29 hi7 hz70 hz71 hz72 rfl (by decide) wantv _ _ rfl hW5 ⟨g, 0, none⟩ (splitL t).length scap (lcells (splitL t)) rfl hlc hnews (lcells_one _) h63' hby' (HB5.out.size) ?_))
        intro v' w6 hown hgrow hiff
        have hf6 := (Fr.ofGrown hgrow : Fr (fun i => wantv.ownBlock = some i) w5 w6)
        have hS6 := (hf6.block _ (lt_of_block HS5.out) (row_ne hW5 HS5.out (by decide))).trans HS5.out
        have hR6 := row_fr hf6 HR5.out (fun g hg e => by
          obtain ⟨_, cs, hc⟩ := row_block HR5.out hg
          exact row_ne hW5 hc (by decide) e)
        have hB6 := HB5.out.trans (hf6.toBelow HB5.out.size (fun i _ hi => (hW5.lt hi).1))
        have HF := Lib.hid (HRS.out w6 v' hB6 hS6 hR6 (by unfold Ls; rw [lcells_append, List.length_append]; exact hown))
        obtain ⟨vo, vc, rfl, _⟩ := row_cells hown
        clear hown hgrow hiff hf6 hS6 hR6 hB6 hnews hW5
        go_wp2_with fail
        go_roundw
        case rel => exact ⟨j + 1, _, rfl, by omega, by go_num, HF.out⟩
        case measure => simp [intOf]; omega
    · have hj' : j = ts.length := by omega
      subst hj'
      have ht : ts.take ts.length = ts := List.take_of_length_le (Nat.le_refl _)
      rw [ht] at hrow hwant
      have HSr : Hid (Src wr w.heap.size S tv (.slice none 0 0) (told ts) []) := ⟨hSb, by rw [told_len]; exact hrow, World.ownsRow_nil _ _ _ _, hS⟩
      have HW := Lib.hid hwant
      have HBL := Lib.hid hbel
      have hws := hbel.size
      clear hSb hrow hwant hbel
      go_wp2_with fail
      by_cases hbig : 1024 < ts.length
      · have hbig' : (1024 : Int) < (ts.length : Int) := by omega
        refine (New_no S ts.length sep wr (.inr hbig')).mono ?_
        rintro e w' ⟨rfl, rfl⟩
        go_wp2_with fail
        go_ret
        exact ⟨by simp [hbig], HBL.out⟩
      · refine (New_yes w.heap.size S tv _ (told ts) sep ts.length (told_len ts).symm wr HSr.out (by rw [told_len]; omega) (fun d hd => by simp at hd; obtain ⟨t, ht, rfl⟩ := hd; have := hC t ht; show t.size ≤ _; omega) hws).mono ?_
        rintro e w2 ⟨rfl, lv, av, i2, s2, t2, _⟩
        have hL := LS.start 1048576 ts hC sep
        have HAI : Hid (AI w w.heap.size w2.heap.size wr.heap.size S ts sep wantv (.slice none 0 0) (.bool false) (.int .i64 (-1)) (.int .i64 0) w2) := by
          show AI _ _ _ _ _ _ _ _ _ _ _ _ _
          refine ⟨[], _, _, _, _, _, _, hL, ?_, rfl, ?_, i2, s2, World.ownsRow_nil _ _ _ _, t2.row HW.out (by decide) (by decide) (by decide), HBL.out.trans t2.below, fun z hz => by simp [Value.ownBlock] at hz, fun z hz => (Ls.lt (t2.row HW.out (by decide) (by decide) (by decide)) hz).2, Nat.le_refl _, (HBL.out.trans t2.below).size⟩
          · have := hL.tak
            simp only [lastOf, this]; rfl
          · cases sep <;> rfl
        generalize wr.heap.size = X at *
        generalize w2.heap.size = B2 at *
        clear hL i2 s2 t2 HSr HW HBL hws
        go_wp2_with fail
        go_loopw [10, 11, 12, 13] (fun gv lv av nv wr => AI w w.heap.size B2 X S ts sep wantv gv lv av nv wr) (fun gv _ _ _ _ => (items 0 ts).length - lenOf gv)
        case atStart => exact HAI.out
        case round =>
          obtain ⟨done, rest, p, x, lv, tv, av, hL, rfl, hatv, hnumv, hI, hSr, hgot, hwant, hbel, hap, hwl, hb2s, hb2w⟩ := hrel
          have HAP := Lib.hid hap
          have HWL := Lib.hid hwl
          clear HAI hap hwl
          rcases rest with _ | ⟨⟨l, k, m⟩, R⟩
          · have hf := hL.fin rfl
            have herr := hL.good.err
            have hpas := hL.good.pas
            have hmap : done.map (·.1) = ts.flatMap splitL := by have := items_fst ts 0; rw [hL.all, List.append_nil] at this; exact this
            have hdl : done.length = (ts.flatMap splitL).length := by rw [← hmap]; simp
            have hlast : done ≠ [] → lastOf x = true := fun h => by
              have : 0 < x.taken := by rw [hL.tak]; exact List.length_pos_iff.2 h
              unfold lastOf; rw [hf.1, decide_eq_true this]; rfl
            rw [hmap] at hgot
            have hask := hSr.asked
            rw [hf.2, List.length_range] at hask
            obtain ⟨so, sc, rfl, _⟩ := row_cells hask
            obtain ⟨gao, gc, rfl, _⟩ := row_cells hgot
            have ht := Take_stop hI hSr (.inr hf.1) hbel.size
            rw [herr] at ht
            have HI2 := Lib.hid hI
            have HS2 := Lib.hid hSr
            have HK := Lib.hid hask
            have HG2 := Lib.hid hgot
            have HW2 := Lib.hid hwant
            have HB2 := Lib.hid hbel
            have d1 := (blk_at hSr.blk 1 rfl).1
            have hfl2 : (ts.flatMap splitL).length ≤ 4611686018427387904 := by omega
            have hts2 : ts.length ≤ 4611686018427387904 := by omega
            generalize hFL : ts.flatMap splitL = fl at *
            have HLA := Lib.hid hlast
            have HP := Lib.hid hpas
            clear hI hSr hask hgot hwant hbel hL hf herr hmap hlast hpas hFL hatv hnumv
            rcases (show fl.length = 0 ∨ done ≠ [] by rcases done with _ | ⟨a, r⟩; exact .inl (by simpa using hdl.symm); exact .inr (by simp)) with h0 | h0
            · rw [h0] at HG2 ⊢
              go_wp2_with fail
              refine ht.mono ?_
              rintro e w3 ⟨rfl, _, hb3⟩
              have HB3 := Lib.hid (bl_to hb3 (bl_alloc w3 (.cells #[.string ⟨#[]⟩, .bool false] 37)))
              clear ht hb3
              go_wp2_with (first
                | (go_at_call 15; refine (Same_yes _ _ fl _ w.heap.size _ (HG2.out.to HB3.out) (HW2.out.to HB3.out) (by omega)).mono ?_; rintro e w5 ⟨rfl, hb5⟩; have HB5 := Lib.hid (bl_to HB3.out hb5); have d2 := bl_cell HB5.out d1)
                | (go_at_call 16; refine (asked_any _ ts.length w.heap.size _ (row_to HB5.out HK.out) hts2).mono ?_; rintro e w' ⟨rfl, rfl⟩)
                | (go_at_call 17; refine (Passed_any (HI2.out.to HB5.out)).mono ?_; rw [HP.out]; rintro e w' ⟨rfl, rfl⟩))
              go_ret
              exact ⟨rfl, HB2.out.trans (HB5.out.mono HB2.out.size)⟩
            · rw [HLA.out h0]
              have hne : ((fl.length : Int) == 0) = false := by
                have := List.length_pos_iff.2 h0
                simp; intro e; rw [e] at hdl; simp at hdl; exact h0 hdl
              go_wp2_with fail
              refine ht.mono ?_
              rintro e w3 ⟨rfl, _, hb3⟩
              have HB3 := Lib.hid (bl_to hb3 (bl_alloc w3 (.cells #[.string ⟨#[]⟩, .bool false] 37)))
              clear ht hb3
              go_wp2_with (first
                | (go_at_call 15; refine (Same_yes _ _ fl _ w.heap.size _ (HG2.out.to HB3.out) (HW2.out.to HB3.out) (by omega)).mono ?_; rintro e w5 ⟨rfl, hb5⟩; have HB5 := Lib.hid (bl_to HB3.out hb5); have d2 := bl_cell HB5.out d1)
                | (go_at_call 16; refine (asked_any _ ts.length w.heap.size _ (row_to HB5.out HK.out) hts2).mono ?_; rintro e w' ⟨rfl, rfl⟩)
                | (go_at_call 17; refine (Passed_any (HI2.out.to HB5.out)).mono ?_; rw [HP.out]; rintro e w' ⟨rfl, rfl⟩))
              go_ret
              exact ⟨rfl, HB2.out.trans (HB5.out.mono HB2.out.size)⟩
          · obtain ⟨ati, numi, lb, fb, hat, hnum, hlb, hfb, hcase⟩ := step_view hL
            rw [← hat] at hatv
            rw [← hnum] at hnumv
            rw [← hlb]
            subst hatv hnumv
            have hs := LS.step hC hL
            obtain ⟨lt, lbb⟩ := l
            obtain ⟨n1, n2, n3, n4, n5, n6, n7, n8⟩ := hL.nxt _ k m R rfl
            simp only at n2 n3
            subst n2 n3
            have hk : k < ts.length := (List.getElem?_eq_some_iff.1 n7).1
            have hmb : m ≤ 1048576 := by have := hL.good.cnt; have := n8.2; omega
            have hkx : ts[k] = x.data := (List.getElem?_eq_some_iff.1 n7).2
            have hdl : done.length + 1 ≤ (ts.flatMap splitL).length := by
              have := congrArg List.length (items_fst ts 0)
              rw [List.length_map, hL.all, List.length_append, List.length_cons] at this
              omega
            have hil : (items 0 ts).length = (ts.flatMap splitL).length := by rw [← items_fst ts 0, List.length_map]
            have ht := Take_go hI hSr hL.good.err n1 (by rw [told_len]; exact hL.good.n) (by rw [told_len]; exact hL.good.ask) (by rw [told_len]; omega) (fun d hd => by simp at hd; obtain ⟨t, ht, rfl⟩ := hd; have := hC t ht; show t.size ≤ _; omega) (by have := hL.good.cnt; omega) (by rw [hL.tak]; omega) hbel.size
            have y1 : (took (told ts) x).taken = done.length + 1 := by show x.taken + 1 = _; rw [hL.tak]
            have y2 : (took (told ts) x).ci = (k : Int) := n4
            have y3 : (took (told ts) x).cn = (m : Int) := n5
            have y4 : (took (told ts) x).nowd = x.data := rfl
            have y5 : (took (told ts) x).fresh = fb := hfb.symm
            have y6 : (took (told ts) x).sep = sep := hs.2.sp
            obtain ⟨b, off, rfl, hbl, hcc⟩ := HA.out (by omega)
            have k0 := hcc k hk
            rw [hkx] at k0
            have hdm : (done.map (·.1)).length = done.length := by simp
            have hmap : (done ++ [((x.nt, x.nwh), k, m)]).map (·.1) = done.map (·.1) ++ [(x.nt, x.nwh)] := by simp
            generalize hFL : ts.flatMap splitL = fl at *
            obtain ⟨wao, wcap, rfl, _⟩ := row_cells hwant
            obtain ⟨gao, gcap, rfl, _⟩ := row_cells hgot
            have HS1 := Lib.hid hs
            have HG1 := Lib.hid hgot
            have HW1 := Lib.hid hwant
            have HB1 := Lib.hid hbel
            have HM := Lib.hid hmap
            have hne : done ++ [((x.nt, x.nwh), k, m)] ≠ [] := by simp
            have HNE := Lib.hid hne
            have HIL := Lib.hid hil
            have HFL := Lib.hid hFL
            have hkI : (k : Int) < (ts.length : Int) := by omega
            clear hI hSr hgot hwant hbel hL hs hmap hat hnum hlb hfb hcc hkx n1 n4 n5 n6 n7 n8 hne hil hFL
            generalize hy : took (told ts) x = y at *
            generalize done.map (·.1) = dm at *
            rw [← hdm] at hcase y1 hdl
            have HDM := Lib.hid hdm
            clear hdm
            rcases hcase with ⟨rfl, rfl, rfl, rfl, hm, rfl, hd0⟩ | ⟨rfl, rfl, rfl, rfl, rfl⟩ | ⟨rfl, rfl, rfl, hnm, hn0, rfl⟩ | ⟨rfl, rfl, rfl, rfl, rfl⟩ | ⟨rfl, rfl, ha0, hak, hm, rfl⟩ | ⟨rfl, rfl, ha0, hak, rfl, rfl⟩
            · clear hd0
              have hkm : ((k : Int) != (-1)) = true := by simp
              have hkl : ¬ (k : Int) < -1 := by omega
              go_wp2_with fail
              refine ht.mono ?_
              rintro e w2 ⟨_, hT⟩
              obtain ⟨rfl, lv', av', i2, s2, t2, o2⟩ := hT HS1.out.1
              have HO2 : Hid (∀ z, (Value.slice gao dm.length gcap).ownBlock = some z → lv'.ownBlock ≠ some z) := fun z hz e => by
                rcases o2 z e with e' | e'
                · exact HAP.out z hz e'
                · have := (HG1.out.lt hz).2; omega
              have hb2x : B2 ≤ w2.heap.size := Nat.le_trans hb2s t2.below.size
              clear o2
              rw [hy] at i2 s2
              have hbx := bl_alloc w2 (.cells #[.string x.nt, .bool x.nwh] 37)
              have HY := Lib.hid (i2.to hbx)
              have HSY := Lib.hid (s2.to hbx)
              have HK2 := Lib.hid (heap_alloc_new w2 (.cells #[.string x.nt, .bool x.nwh] 37))
              have HG2 : Hid (Ls (w2.alloc (.cells #[.string x.nt, .bool x.nwh] 37)) B2 (.slice gao dm.length gcap) dm) := (t2.row HG1.out (by decide) (by decide) (by decide) |> row_to hbx)
              have HW2 : Hid (Ls (w2.alloc (.cells #[.string x.nt, .bool x.nwh] 37)) w.heap.size (.slice wao fl.length wcap) fl) := (t2.row HW1.out (by decide) (by decide) (by decide) |> row_to hbx)
              have HB2 : Hid (Below w.heap.size w (w2.alloc (.cells #[.string x.nt, .bool x.nwh] 37))) := (HB1.out.trans t2.below).trans (hbx.mono i2.lt)
              have hAt := At_any HY.out
              rw [if_neg (by rw [y1]; omega), y2] at hAt
              have hNu := Number_any HY.out
              rw [if_neg (by rw [y1]; omega), y3, y1, y6] at hNu
              have hFr := Fresh_any HY.out
              rw [decide_eq_true (by rw [y1]; omega), y5] at hFr
              have hDa := Data_any HY.out
              rw [if_neg (by rw [y1]; omega), y4] at hDa
              have hLa : Calls Try.prog 14 #[.pointer (some ⟨X, 0, none⟩)] (w2.alloc (.cells #[.string x.nt, .bool x.nwh] 37)) fun e w' => e = .returned (.bool (lastOf y)) ∧ Below (w2.alloc (.cells #[.string x.nt, .bool x.nwh] 37)).heap.size (w2.alloc (.cells #[.string x.nt, .bool x.nwh] 37)) w' := Last_any HY.out
              have k1 := (HB2.out.cell (p := ⟨b, off + k, none⟩) hbl).trans k0
              have HAT := Lib.hid hAt
              have HNU := Lib.hid hNu
              have HFR := Lib.hid hFr
              have HDA := Lib.hid hDa
              have HLA := Lib.hid hLa
              clear hT i2 s2 t2 hbx hAt hNu hFr hDa hLa ht
              go_wp2_with (first
                | (go_at_call 10; refine HAT.out.mono ?_; rintro e w' ⟨rfl, rfl⟩)
                | (go_at_call 11; refine HNU.out.mono ?_; rintro e w' ⟨rfl, rfl⟩)
                | (go_at_call 12; refine HFR.out.mono ?_; rintro e w' ⟨rfl, rfl⟩)
                | (go_at_call 13; refine HDA.out.mono ?_; rintro e w' ⟨rfl, rfl⟩))
              refine HLA.out.mono ?_
              rintro e w5 ⟨rfl, hb5⟩
              have hk5 := (hb5.block _ (lt_of_block HK2.out)).trans HK2.out
              have q0 := (blk_at hk5 0 (v := .string x.nt) rfl).1
              have q1 := (blk_at hk5 1 (v := .bool x.nwh) rfl).1
              have HG5 := Lib.hid (HG2.out.to hb5)
              have HI5 := Lib.hid (HY.out.to hb5)
              have HS5 := Lib.hid (HSY.out.to hb5)
              have HW5 := Lib.hid (HW2.out.to hb5)
              have HB5 : Hid (Below w.heap.size w w5) := HB2.out.trans (hb5.mono HB2.out.size)
              have h63 : dm.length + 1 ≤ maxLen := by unfold maxLen; omega
              have hby : (dm.length + 1) * 24 ≤ 140737488355328 := by omega
              have hws := HB5.out.size
              have hb25 : B2 ≤ w5.heap.size := by have := hb5.size; simp at this; omega
              clear hb5 hk5
              go_wp2_with (at_builtin; go_must (refine wpList_append_lies _ rfl (.tmp 134) (.tmp 136) 29 rfl B2 37 i7 (.agg #[(.string ⟨#[]⟩), (.bool false)]) 2 24 Try.underlying29 hi7 hz70 hz71 hz72 rfl (by decide) (.slice gao dm.length gcap) dm.length (lcells dm) rfl (row_to (bl_alloc w5 _) HG5.out) ⟨w5.heap.size, 0, none⟩ 1 1 [.string x.nt, .bool x.nwh] rfl rfl (cells_two w5 _ _ 37) (by intro u hu; simp at hu; rcases hu with rfl | rfl <;> rfl) (by omega) h63 hby (by simp; omega) (w5.heap.size + 1) (by simp) ?_))
              intro g6 cap6 w6 hown hgrow hat6 hlt6
              have hf6 : Fr (fun i => (Value.slice gao dm.length gcap).ownBlock = some i) w5 w6 := ((Fr.refl _ w5).alloc _).trans (Fr.ofGrown hgrow) (fun i _ hi => hi)
              have hiS : Inp w6 w.heap.size X S lv' y ∧ Src w6 w.heap.size S tv av' (told ts) (List.range y.asked) ∧ Ls w6 w.heap.size (.slice wao fl.length wcap) fl := after_got HI5.out HS5.out HG5.out HW5.out hf6 HO2.out HWL.out
              have hap6 : ∀ z, (Value.slice (some ⟨g6, 0, none⟩) (dm.length + 1) cap6).ownBlock = some z → lv'.ownBlock ≠ some z := by
                intro z hz e
                simp only [Value.ownBlock, Option.some.injEq] at hz
                subst hz
                rcases hat6 with e' | e'
                · exact HO2.out _ e' e
                · obtain ⟨_, _, _, _, hzl, _⟩ := HI5.out.left
                  have := hzl _ e; omega
              have HAP6 := Lib.hid hap6
              have hb26 : B2 ≤ w6.heap.size := Nat.le_trans hb25 hf6.size
              have HB6 := Lib.hid (HB5.out.trans (hf6.toBelow hws (fun i _ hi => Nat.le_trans hb2w (HG5.out.lt hi).1)))
              have HG6 : Hid (Ls w6 B2 (.slice (some ⟨g6, 0, none⟩) (dm.length + 1) cap6) (dm ++ [(x.nt, x.nwh)])) := Ls.snoc rfl hown
              have HIS := Lib.hid hiS
              clear hiS hown hgrow hat6 hlt6 hf6 q0 q1 hap6
              go_wp2_with fail
              go_roundw
              case rel =>
                refine ⟨done ++ [((x.nt, x.nwh), k, m)], R, some (k, m), y, lv', tv, av', HS1.out.2, rfl, ?_, ?_, HIS.out.1, HIS.out.2.1, by rw [HM.out]; exact HG6.out, HFL.out ▸ HIS.out.2.2, HB6.out, HAP6.out, HWL.out, hb26, hb2w⟩
                · rw [if_neg HNE.out, y2]
                · rw [if_neg HNE.out, y3]; have hh := HDM.out; simp; try omega
              case measure => simp [lenOf]; have := HIL.out; omega
            · have hkm : ((k : Int) != (-1)) = true := by simp
              have hkl : ¬ (k : Int) < -1 := by omega
              go_wp2_with fail
              refine ht.mono ?_
              rintro e w2 ⟨_, hT⟩
              obtain ⟨rfl, lv', av', i2, s2, t2, o2⟩ := hT HS1.out.1
              have HO2 : Hid (∀ z, (Value.slice gao dm.length gcap).ownBlock = some z → lv'.ownBlock ≠ some z) := fun z hz e => by
                rcases o2 z e with e' | e'
                · exact HAP.out z hz e'
                · have := (HG1.out.lt hz).2; omega
              have hb2x : B2 ≤ w2.heap.size := Nat.le_trans hb2s t2.below.size
              clear o2
              rw [hy] at i2 s2
              have hbx := bl_alloc w2 (.cells #[.string x.nt, .bool x.nwh] 37)
              have HY := Lib.hid (i2.to hbx)
              have HSY := Lib.hid (s2.to hbx)
              have HK2 := Lib.hid (heap_alloc_new w2 (.cells #[.string x.nt, .bool x.nwh] 37))
              have HG2 : Hid (Ls (w2.alloc (.cells #[.string x.nt, .bool x.nwh] 37)) B2 (.slice gao dm.length gcap) dm) := (t2.row HG1.out (by decide) (by decide) (by decide) |> row_to hbx)
              have HW2 : Hid (Ls (w2.alloc (.cells #[.string x.nt, .bool x.nwh] 37)) w.heap.size (.slice wao fl.length wcap) fl) := (t2.row HW1.out (by decide) (by decide) (by decide) |> row_to hbx)
              have HB2 : Hid (Below w.heap.size w (w2.alloc (.cells #[.string x.nt, .bool x.nwh] 37))) := (HB1.out.trans t2.below).trans (hbx.mono i2.lt)
              have hAt := At_any HY.out
              rw [if_neg (by rw [y1]; omega), y2] at hAt
              have hNu := Number_any HY.out
              rw [if_neg (by rw [y1]; omega), y3, y1, y6] at hNu
              have hFr := Fresh_any HY.out
              rw [decide_eq_true (by rw [y1]; omega), y5] at hFr
              have hDa := Data_any HY.out
              rw [if_neg (by rw [y1]; omega), y4] at hDa
              have hLa : Calls Try.prog 14 #[.pointer (some ⟨X, 0, none⟩)] (w2.alloc (.cells #[.string x.nt, .bool x.nwh] 37)) fun e w' => e = .returned (.bool (lastOf y)) ∧ Below (w2.alloc (.cells #[.string x.nt, .bool x.nwh] 37)).heap.size (w2.alloc (.cells #[.string x.nt, .bool x.nwh] 37)) w' := Last_any HY.out
              have k1 := (HB2.out.cell (p := ⟨b, off + k, none⟩) hbl).trans k0
              have HAT := Lib.hid hAt
              have HNU := Lib.hid hNu
              have HFR := Lib.hid hFr
              have HDA := Lib.hid hDa
              have HLA := Lib.hid hLa
              clear hT i2 s2 t2 hbx hAt hNu hFr hDa hLa ht
              go_wp2_with (first
                | (go_at_call 10; refine HAT.out.mono ?_; rintro e w' ⟨rfl, rfl⟩)
                | (go_at_call 11; refine HNU.out.mono ?_; rintro e w' ⟨rfl, rfl⟩)
                | (go_at_call 12; refine HFR.out.mono ?_; rintro e w' ⟨rfl, rfl⟩)
                | (go_at_call 13; refine HDA.out.mono ?_; rintro e w' ⟨rfl, rfl⟩))
              refine HLA.out.mono ?_
              rintro e w5 ⟨rfl, hb5⟩
              have hk5 := (hb5.block _ (lt_of_block HK2.out)).trans HK2.out
              have q0 := (blk_at hk5 0 (v := .string x.nt) rfl).1
              have q1 := (blk_at hk5 1 (v := .bool x.nwh) rfl).1
              have HG5 := Lib.hid (HG2.out.to hb5)
              have HI5 := Lib.hid (HY.out.to hb5)
              have HS5 := Lib.hid (HSY.out.to hb5)
              have HW5 := Lib.hid (HW2.out.to hb5)
              have HB5 : Hid (Below w.heap.size w w5) := HB2.out.trans (hb5.mono HB2.out.size)
              have h63 : dm.length + 1 ≤ maxLen := by unfold maxLen; omega
              have hby : (dm.length + 1) * 24 ≤ 140737488355328 := by omega
              have hws := HB5.out.size
              have hb25 : B2 ≤ w5.heap.size := by have := hb5.size; simp at this; omega
              clear hb5 hk5
              go_wp2_with (at_builtin; go_must (refine wpList_append_lies _ rfl (.tmp 134) (.tmp 136) 29 rfl B2 37 i7 (.agg #[(.string ⟨#[]⟩), (.bool false)]) 2 24 Try.underlying29 hi7 hz70 hz71 hz72 rfl (by decide) (.slice gao dm.length gcap) dm.length (lcells dm) rfl (row_to (bl_alloc w5 _) HG5.out) ⟨w5.heap.size, 0, none⟩ 1 1 [.string x.nt, .bool x.nwh] rfl rfl (cells_two w5 _ _ 37) (by intro u hu; simp at hu; rcases hu with rfl | rfl <;> rfl) (by omega) h63 hby (by simp; omega) (w5.heap.size + 1) (by simp) ?_))
              intro g6 cap6 w6 hown hgrow hat6 hlt6
              have hf6 : Fr (fun i => (Value.slice gao dm.length gcap).ownBlock = some i) w5 w6 := ((Fr.refl _ w5).alloc _).trans (Fr.ofGrown hgrow) (fun i _ hi => hi)
              have hiS : Inp w6 w.heap.size X S lv' y ∧ Src w6 w.heap.size S tv av' (told ts) (List.range y.asked) ∧ Ls w6 w.heap.size (.slice wao fl.length wcap) fl := after_got HI5.out HS5.out HG5.out HW5.out hf6 HO2.out HWL.out
              have hap6 : ∀ z, (Value.slice (some ⟨g6, 0, none⟩) (dm.length + 1) cap6).ownBlock = some z → lv'.ownBlock ≠ some z := by
                intro z hz e
                simp only [Value.ownBlock, Option.some.injEq] at hz
                subst hz
                rcases hat6 with e' | e'
                · exact HO2.out _ e' e
                · obtain ⟨_, _, _, _, hzl, _⟩ := HI5.out.left
                  have := hzl _ e; omega
              have HAP6 := Lib.hid hap6
              have hb26 : B2 ≤ w6.heap.size := Nat.le_trans hb25 hf6.size
              have HB6 := Lib.hid (HB5.out.trans (hf6.toBelow hws (fun i _ hi => Nat.le_trans hb2w (HG5.out.lt hi).1)))
              have HG6 : Hid (Ls w6 B2 (.slice (some ⟨g6, 0, none⟩) (dm.length + 1) cap6) (dm ++ [(x.nt, x.nwh)])) := Ls.snoc rfl hown
              have HIS := Lib.hid hiS
              clear hiS hown hgrow hat6 hlt6 hf6 q0 q1 hap6
              go_wp2_with fail
              go_roundw
              case rel =>
                refine ⟨done ++ [((x.nt, x.nwh), k, m)], R, some (k, m), y, lv', tv, av', HS1.out.2, rfl, ?_, ?_, HIS.out.1, HIS.out.2.1, by rw [HM.out]; exact HG6.out, HFL.out ▸ HIS.out.2.2, HB6.out, HAP6.out, HWL.out, hb26, hb2w⟩
                · rw [if_neg HNE.out, y2]
                · rw [if_neg HNE.out, y3]; have hh := HDM.out; simp; try omega
              case measure => simp [lenOf]; have := HIL.out; omega
            · obtain rfl : numi = (m : Int) - 1 := by omega
              have hwm := wrap_in (m : Int) (by omega) (by omega)
              clear hnm
              go_wp2_with fail
              refine ht.mono ?_
              rintro e w2 ⟨_, hT⟩
              obtain ⟨rfl, lv', av', i2, s2, t2, o2⟩ := hT HS1.out.1
              have HO2 : Hid (∀ z, (Value.slice gao dm.length gcap).ownBlock = some z → lv'.ownBlock ≠ some z) := fun z hz e => by
                rcases o2 z e with e' | e'
                · exact HAP.out z hz e'
                · have := (HG1.out.lt hz).2; omega
              have hb2x : B2 ≤ w2.heap.size := Nat.le_trans hb2s t2.below.size
              clear o2
              rw [hy] at i2 s2
              have hbx := bl_alloc w2 (.cells #[.string x.nt, .bool x.nwh] 37)
              have HY := Lib.hid (i2.to hbx)
              have HSY := Lib.hid (s2.to hbx)
              have HK2 := Lib.hid (heap_alloc_new w2 (.cells #[.string x.nt, .bool x.nwh] 37))
              have HG2 : Hid (Ls (w2.alloc (.cells #[.string x.nt, .bool x.nwh] 37)) B2 (.slice gao dm.length gcap) dm) := (t2.row HG1.out (by decide) (by decide) (by decide) |> row_to hbx)
              have HW2 : Hid (Ls (w2.alloc (.cells #[.string x.nt, .bool x.nwh] 37)) w.heap.size (.slice wao fl.length wcap) fl) := (t2.row HW1.out (by decide) (by decide) (by decide) |> row_to hbx)
              have HB2 : Hid (Below w.heap.size w (w2.alloc (.cells #[.string x.nt, .bool x.nwh] 37))) := (HB1.out.trans t2.below).trans (hbx.mono i2.lt)
              have hAt := At_any HY.out
              rw [if_neg (by rw [y1]; omega), y2] at hAt
              have hNu := Number_any HY.out
              rw [if_neg (by rw [y1]; omega), y3, y1, y6] at hNu
              have hFr := Fresh_any HY.out
              rw [decide_eq_true (by rw [y1]; omega), y5] at hFr
              have hDa := Data_any HY.out
              rw [if_neg (by rw [y1]; omega), y4] at hDa
              have hLa : Calls Try.prog 14 #[.pointer (some ⟨X, 0, none⟩)] (w2.alloc (.cells #[.string x.nt, .bool x.nwh] 37)) fun e w' => e = .returned (.bool (lastOf y)) ∧ Below (w2.alloc (.cells #[.string x.nt, .bool x.nwh] 37)).heap.size (w2.alloc (.cells #[.string x.nt, .bool x.nwh] 37)) w' := Last_any HY.out
              have k1 := (HB2.out.cell (p := ⟨b, off + k, none⟩) hbl).trans k0
              have HAT := Lib.hid hAt
              have HNU := Lib.hid hNu
              have HFR := Lib.hid hFr
              have HDA := Lib.hid hDa
              have HLA := Lib.hid hLa
              clear hT i2 s2 t2 hbx hAt hNu hFr hDa hLa ht
              go_wp2_with (first
                | (go_at_call 10; refine HAT.out.mono ?_; rintro e w' ⟨rfl, rfl⟩)
                | (go_at_call 11; refine HNU.out.mono ?_; rintro e w' ⟨rfl, rfl⟩)
                | (go_at_call 12; refine HFR.out.mono ?_; rintro e w' ⟨rfl, rfl⟩)
                | (go_at_call 13; refine HDA.out.mono ?_; rintro e w' ⟨rfl, rfl⟩))
              refine HLA.out.mono ?_
              rintro e w5 ⟨rfl, hb5⟩
              have hk5 := (hb5.block _ (lt_of_block HK2.out)).trans HK2.out
              have q0 := (blk_at hk5 0 (v := .string x.nt) rfl).1
              have q1 := (blk_at hk5 1 (v := .bool x.nwh) rfl).1
              have HG5 := Lib.hid (HG2.out.to hb5)
              have HI5 := Lib.hid (HY.out.to hb5)
              have HS5 := Lib.hid (HSY.out.to hb5)
              have HW5 := Lib.hid (HW2.out.to hb5)
              have HB5 : Hid (Below w.heap.size w w5) := HB2.out.trans (hb5.mono HB2.out.size)
              have h63 : dm.length + 1 ≤ maxLen := by unfold maxLen; omega
              have hby : (dm.length + 1) * 24 ≤ 140737488355328 := by omega
              have hws := HB5.out.size
              have hb25 : B2 ≤ w5.heap.size := by have := hb5.size; simp at this; omega
              clear hb5 hk5
              go_wp2_with (at_builtin; go_must (refine wpList_append_lies _ rfl (.tmp 134) (.tmp 136) 29 rfl B2 37 i7 (.agg #[(.string ⟨#[]⟩), (.bool false)]) 2 24 Try.underlying29 hi7 hz70 hz71 hz72 rfl (by decide) (.slice gao dm.length gcap) dm.length (lcells dm) rfl (row_to (bl_alloc w5 _) HG5.out) ⟨w5.heap.size, 0, none⟩ 1 1 [.string x.nt, .bool x.nwh] rfl rfl (cells_two w5 _ _ 37) (by intro u hu; simp at hu; rcases hu with rfl | rfl <;> rfl) (by omega) h63 hby (by simp; omega) (w5.heap.size + 1) (by simp) ?_))
              intro g6 cap6 w6 hown hgrow hat6 hlt6
              have hf6 : Fr (fun i => (Value.slice gao dm.length gcap).ownBlock = some i) w5 w6 := ((Fr.refl _ w5).alloc _).trans (Fr.ofGrown hgrow) (fun i _ hi => hi)
              have hiS : Inp w6 w.heap.size X S lv' y ∧ Src w6 w.heap.size S tv av' (told ts) (List.range y.asked) ∧ Ls w6 w.heap.size (.slice wao fl.length wcap) fl := after_got HI5.out HS5.out HG5.out HW5.out hf6 HO2.out HWL.out
              have hap6 : ∀ z, (Value.slice (some ⟨g6, 0, none⟩) (dm.length + 1) cap6).ownBlock = some z → lv'.ownBlock ≠ some z := by
                intro z hz e
                simp only [Value.ownBlock, Option.some.injEq] at hz
                subst hz
                rcases hat6 with e' | e'
                · exact HO2.out _ e' e
                · obtain ⟨_, _, _, _, hzl, _⟩ := HI5.out.left
                  have := hzl _ e; omega
              have HAP6 := Lib.hid hap6
              have hb26 : B2 ≤ w6.heap.size := Nat.le_trans hb25 hf6.size
              have HB6 := Lib.hid (HB5.out.trans (hf6.toBelow hws (fun i _ hi => Nat.le_trans hb2w (HG5.out.lt hi).1)))
              have HG6 : Hid (Ls w6 B2 (.slice (some ⟨g6, 0, none⟩) (dm.length + 1) cap6) (dm ++ [(x.nt, x.nwh)])) := Ls.snoc rfl hown
              have HIS := Lib.hid hiS
              clear hiS hown hgrow hat6 hlt6 hf6 q0 q1 hap6
              go_wp2_with fail
              go_roundw
              case rel =>
                refine ⟨done ++ [((x.nt, x.nwh), k, m)], R, some (k, m), y, lv', tv, av', HS1.out.2, rfl, ?_, ?_, HIS.out.1, HIS.out.2.1, by rw [HM.out]; exact HG6.out, HFL.out ▸ HIS.out.2.2, HB6.out, HAP6.out, HWL.out, hb26, hb2w⟩
                · rw [if_neg HNE.out, y2]
                · rw [if_neg HNE.out, y3]; have hh := HDM.out; simp; try omega
              case measure => simp [lenOf]; have := HIL.out; omega
            · skip
              go_wp2_with fail
              refine ht.mono ?_
              rintro e w2 ⟨_, hT⟩
              obtain ⟨rfl, lv', av', i2, s2, t2, o2⟩ := hT HS1.out.1
              have HO2 : Hid (∀ z, (Value.slice gao dm.length gcap).ownBlock = some z → lv'.ownBlock ≠ some z) := fun z hz e => by
                rcases o2 z e with e' | e'
                · exact HAP.out z hz e'
                · have := (HG1.out.lt hz).2; omega
              have hb2x : B2 ≤ w2.heap.size := Nat.le_trans hb2s t2.below.size
              clear o2
              rw [hy] at i2 s2
              have hbx := bl_alloc w2 (.cells #[.string x.nt, .bool x.nwh] 37)
              have HY := Lib.hid (i2.to hbx)
              have HSY := Lib.hid (s2.to hbx)
              have HK2 := Lib.hid (heap_alloc_new w2 (.cells #[.string x.nt, .bool x.nwh] 37))
              have HG2 : Hid (Ls (w2.alloc (.cells #[.string x.nt, .bool x.nwh] 37)) B2 (.slice gao dm.length gcap) dm) := (t2.row HG1.out (by decide) (by decide) (by decide) |> row_to hbx)
              have HW2 : Hid (Ls (w2.alloc (.cells #[.string x.nt, .bool x.nwh] 37)) w.heap.size (.slice wao fl.length wcap) fl) := (t2.row HW1.out (by decide) (by decide) (by decide) |> row_to hbx)
              have HB2 : Hid (Below w.heap.size w (w2.alloc (.cells #[.string x.nt, .bool x.nwh] 37))) := (HB1.out.trans t2.below).trans (hbx.mono i2.lt)
              have hAt := At_any HY.out
              rw [if_neg (by rw [y1]; omega), y2] at hAt
              have hNu := Number_any HY.out
              rw [if_neg (by rw [y1]; omega), y3, y1, y6] at hNu
              have hFr := Fresh_any HY.out
              rw [decide_eq_true (by rw [y1]; omega), y5] at hFr
              have hDa := Data_any HY.out
              rw [if_neg (by rw [y1]; omega), y4] at hDa
              have hLa : Calls Try.prog 14 #[.pointer (some ⟨X, 0, none⟩)] (w2.alloc (.cells #[.string x.nt, .bool x.nwh] 37)) fun e w' => e = .returned (.bool (lastOf y)) ∧ Below (w2.alloc (.cells #[.string x.nt, .bool x.nwh] 37)).heap.size (w2.alloc (.cells #[.string x.nt, .bool x.nwh] 37)) w' := Last_any HY.out
              have k1 := (HB2.out.cell (p := ⟨b, off + k, none⟩) hbl).trans k0
              have HAT := Lib.hid hAt
              have HNU := Lib.hid hNu
              have HFR := Lib.hid hFr
              have HDA := Lib.hid hDa
              have HLA := Lib.hid hLa
              clear hT i2 s2 t2 hbx hAt hNu hFr hDa hLa ht
              go_wp2_with (first
                | (go_at_call 10; refine HAT.out.mono ?_; rintro e w' ⟨rfl, rfl⟩)
                | (go_at_call 11; refine HNU.out.mono ?_; rintro e w' ⟨rfl, rfl⟩)
                | (go_at_call 12; refine HFR.out.mono ?_; rintro e w' ⟨rfl, rfl⟩)
                | (go_at_call 13; refine HDA.out.mono ?_; rintro e w' ⟨rfl, rfl⟩))
              refine HLA.out.mono ?_
              rintro e w5 ⟨rfl, hb5⟩
              have hk5 := (hb5.block _ (lt_of_block HK2.out)).trans HK2.out
              have q0 := (blk_at hk5 0 (v := .string x.nt) rfl).1
              have q1 := (blk_at hk5 1 (v := .bool x.nwh) rfl).1
              have HG5 := Lib.hid (HG2.out.to hb5)
              have HI5 := Lib.hid (HY.out.to hb5)
              have HS5 := Lib.hid (HSY.out.to hb5)
              have HW5 := Lib.hid (HW2.out.to hb5)
              have HB5 : Hid (Below w.heap.size w w5) := HB2.out.trans (hb5.mono HB2.out.size)
              have h63 : dm.length + 1 ≤ maxLen := by unfold maxLen; omega
              have hby : (dm.length + 1) * 24 ≤ 140737488355328 := by omega
              have hws := HB5.out.size
              have hb25 : B2 ≤ w5.heap.size := by have := hb5.size; simp at this; omega
              clear hb5 hk5
              go_wp2_with (at_builtin; go_must (refine wpList_append_lies _ rfl (.tmp 134) (.tmp 136) 29 rfl B2 37 i7 (.agg #[(.string ⟨#[]⟩), (.bool false)]) 2 24 Try.underlying29 hi7 hz70 hz71 hz72 rfl (by decide) (.slice gao dm.length gcap) dm.length (lcells dm) rfl (row_to (bl_alloc w5 _) HG5.out) ⟨w5.heap.size, 0, none⟩ 1 1 [.string x.nt, .bool x.nwh] rfl rfl (cells_two w5 _ _ 37) (by intro u hu; simp at hu; rcases hu with rfl | rfl <;> rfl) (by omega) h63 hby (by simp; omega) (w5.heap.size + 1) (by simp) ?_))
              intro g6 cap6 w6 hown hgrow hat6 hlt6
              have hf6 : Fr (fun i => (Value.slice gao dm.length gcap).ownBlock = some i) w5 w6 := ((Fr.refl _ w5).alloc _).trans (Fr.ofGrown hgrow) (fun i _ hi => hi)
              have hiS : Inp w6 w.heap.size X S lv' y ∧ Src w6 w.heap.size S tv av' (told ts) (List.range y.asked) ∧ Ls w6 w.heap.size (.slice wao fl.length wcap) fl := after_got HI5.out HS5.out HG5.out HW5.out hf6 HO2.out HWL.out
              have hap6 : ∀ z, (Value.slice (some ⟨g6, 0, none⟩) (dm.length + 1) cap6).ownBlock = some z → lv'.ownBlock ≠ some z := by
                intro z hz e
                simp only [Value.ownBlock, Option.some.injEq] at hz
                subst hz
                rcases hat6 with e' | e'
                · exact HO2.out _ e' e
                · obtain ⟨_, _, _, _, hzl, _⟩ := HI5.out.left
                  have := hzl _ e; omega
              have HAP6 := Lib.hid hap6
              have hb26 : B2 ≤ w6.heap.size := Nat.le_trans hb25 hf6.size
              have HB6 := Lib.hid (HB5.out.trans (hf6.toBelow hws (fun i _ hi => Nat.le_trans hb2w (HG5.out.lt hi).1)))
              have HG6 : Hid (Ls w6 B2 (.slice (some ⟨g6, 0, none⟩) (dm.length + 1) cap6) (dm ++ [(x.nt, x.nwh)])) := Ls.snoc rfl hown
              have HIS := Lib.hid hiS
              clear hiS hown hgrow hat6 hlt6 hf6 q0 q1 hap6
              go_wp2_with fail
              go_roundw
              case rel =>
                refine ⟨done ++ [((x.nt, x.nwh), k, m)], R, some (k, m), y, lv', tv, av', HS1.out.2, rfl, ?_, ?_, HIS.out.1, HIS.out.2.1, by rw [HM.out]; exact HG6.out, HFL.out ▸ HIS.out.2.2, HB6.out, HAP6.out, HWL.out, hb26, hb2w⟩
                · rw [if_neg HNE.out, y2]
                · rw [if_neg HNE.out, y3]; have hh := HDM.out; simp; try omega
              case measure => simp [lenOf]; have := HIL.out; omega
            · have hkm : ((k : Int) != ati) = true := by simp; omega
              have hkl : ¬ (k : Int) < ati := by omega
              go_wp2_with fail
              refine ht.mono ?_
              rintro e w2 ⟨_, hT⟩
              obtain ⟨rfl, lv', av', i2, s2, t2, o2⟩ := hT HS1.out.1
              have HO2 : Hid (∀ z, (Value.slice gao dm.length gcap).ownBlock = some z → lv'.ownBlock ≠ some z) := fun z hz e => by
                rcases o2 z e with e' | e'
                · exact HAP.out z hz e'
                · have := (HG1.out.lt hz).2; omega
              have hb2x : B2 ≤ w2.heap.size := Nat.le_trans hb2s t2.below.size
              clear o2
              rw [hy] at i2 s2
              have hbx := bl_alloc w2 (.cells #[.string x.nt, .bool x.nwh] 37)
              have HY := Lib.hid (i2.to hbx)
              have HSY := Lib.hid (s2.to hbx)
              have HK2 := Lib.hid (heap_alloc_new w2 (.cells #[.string x.nt, .bool x.nwh] 37))
              have HG2 : Hid (Ls (w2.alloc (.cells #[.string x.nt, .bool x.nwh] 37)) B2 (.slice gao dm.length gcap) dm) := (t2.row HG1.out (by decide) (by decide) (by decide) |> row_to hbx)
              have HW2 : Hid (Ls (w2.alloc (.cells #[.string x.nt, .bool x.nwh] 37)) w.heap.size (.slice wao fl.length wcap) fl) := (t2.row HW1.out (by decide) (by decide) (by decide) |> row_to hbx)
              have HB2 : Hid (Below w.heap.size w (w2.alloc (.cells #[.string x.nt, .bool x.nwh] 37))) := (HB1.out.trans t2.below).trans (hbx.mono i2.lt)
              have hAt := At_any HY.out
              rw [if_neg (by rw [y1]; omega), y2] at hAt
              have hNu := Number_any HY.out
              rw [if_neg (by rw [y1]; omega), y3, y1, y6] at hNu
              have hFr := Fresh_any HY.out
              rw [decide_eq_true (by rw [y1]; omega), y5] at hFr
              have hDa := Data_any HY.out
              rw [if_neg (by rw [y1]; omega), y4] at hDa
              have hLa : Calls Try.prog 14 #[.pointer (some ⟨X, 0, none⟩)] (w2.alloc (.cells #[.string x.nt, .bool x.nwh] 37)) fun e w' => e = .returned (.bool (lastOf y)) ∧ Below (w2.alloc (.cells #[.string x.nt, .bool x.nwh] 37)).heap.size (w2.alloc (.cells #[.string x.nt, .bool x.nwh] 37)) w' := Last_any HY.out
              have k1 := (HB2.out.cell (p := ⟨b, off + k, none⟩) hbl).trans k0
              have HAT := Lib.hid hAt
              have HNU := Lib.hid hNu
              have HFR := Lib.hid hFr
              have HDA := Lib.hid hDa
              have HLA := Lib.hid hLa
              clear hT i2 s2 t2 hbx hAt hNu hFr hDa hLa ht
              go_wp2_with (first
                | (go_at_call 10; refine HAT.out.mono ?_; rintro e w' ⟨rfl, rfl⟩)
                | (go_at_call 11; refine HNU.out.mono ?_; rintro e w' ⟨rfl, rfl⟩)
                | (go_at_call 12; refine HFR.out.mono ?_; rintro e w' ⟨rfl, rfl⟩)
                | (go_at_call 13; refine HDA.out.mono ?_; rintro e w' ⟨rfl, rfl⟩))
              refine HLA.out.mono ?_
              rintro e w5 ⟨rfl, hb5⟩
              have hk5 := (hb5.block _ (lt_of_block HK2.out)).trans HK2.out
              have q0 := (blk_at hk5 0 (v := .string x.nt) rfl).1
              have q1 := (blk_at hk5 1 (v := .bool x.nwh) rfl).1
              have HG5 := Lib.hid (HG2.out.to hb5)
              have HI5 := Lib.hid (HY.out.to hb5)
              have HS5 := Lib.hid (HSY.out.to hb5)
              have HW5 := Lib.hid (HW2.out.to hb5)
              have HB5 : Hid (Below w.heap.size w w5) := HB2.out.trans (hb5.mono HB2.out.size)
              have h63 : dm.length + 1 ≤ maxLen := by unfold maxLen; omega
              have hby : (dm.length + 1) * 24 ≤ 140737488355328 := by omega
              have hws := HB5.out.size
              have hb25 : B2 ≤ w5.heap.size := by have := hb5.size; simp at this; omega
              clear hb5 hk5
              go_wp2_with (at_builtin; go_must (refine wpList_append_lies _ rfl (.tmp 134) (.tmp 136) 29 rfl B2 37 i7 (.agg #[(.string ⟨#[]⟩), (.bool false)]) 2 24 Try.underlying29 hi7 hz70 hz71 hz72 rfl (by decide) (.slice gao dm.length gcap) dm.length (lcells dm) rfl (row_to (bl_alloc w5 _) HG5.out) ⟨w5.heap.size, 0, none⟩ 1 1 [.string x.nt, .bool x.nwh] rfl rfl (cells_two w5 _ _ 37) (by intro u hu; simp at hu; rcases hu with rfl | rfl <;> rfl) (by omega) h63 hby (by simp; omega) (w5.heap.size + 1) (by simp) ?_))
              intro g6 cap6 w6 hown hgrow hat6 hlt6
              have hf6 : Fr (fun i => (Value.slice gao dm.length gcap).ownBlock = some i) w5 w6 := ((Fr.refl _ w5).alloc _).trans (Fr.ofGrown hgrow) (fun i _ hi => hi)
              have hiS : Inp w6 w.heap.size X S lv' y ∧ Src w6 w.heap.size S tv av' (told ts) (List.range y.asked) ∧ Ls w6 w.heap.size (.slice wao fl.length wcap) fl := after_got HI5.out HS5.out HG5.out HW5.out hf6 HO2.out HWL.out
              have hap6 : ∀ z, (Value.slice (some ⟨g6, 0, none⟩) (dm.length + 1) cap6).ownBlock = some z → lv'.ownBlock ≠ some z := by
                intro z hz e
                simp only [Value.ownBlock, Option.some.injEq] at hz
                subst hz
                rcases hat6 with e' | e'
                · exact HO2.out _ e' e
                · obtain ⟨_, _, _, _, hzl, _⟩ := HI5.out.left
                  have := hzl _ e; omega
              have HAP6 := Lib.hid hap6
              have hb26 : B2 ≤ w6.heap.size := Nat.le_trans hb25 hf6.size
              have HB6 := Lib.hid (HB5.out.trans (hf6.toBelow hws (fun i _ hi => Nat.le_trans hb2w (HG5.out.lt hi).1)))
              have HG6 : Hid (Ls w6 B2 (.slice (some ⟨g6, 0, none⟩) (dm.length + 1) cap6) (dm ++ [(x.nt, x.nwh)])) := Ls.snoc rfl hown
              have HIS := Lib.hid hiS
              clear hiS hown hgrow hat6 hlt6 hf6 q0 q1 hap6
              go_wp2_with fail
              go_roundw
              case rel =>
                refine ⟨done ++ [((x.nt, x.nwh), k, m)], R, some (k, m), y, lv', tv, av', HS1.out.2, rfl, ?_, ?_, HIS.out.1, HIS.out.2.1, by rw [HM.out]; exact HG6.out, HFL.out ▸ HIS.out.2.2, HB6.out, HAP6.out, HWL.out, hb26, hb2w⟩
                · rw [if_neg HNE.out, y2]
                · rw [if_neg HNE.out, y3]; have hh := HDM.out; simp; try omega
              case measure => simp [lenOf]; have := HIL.out; omega
            · have hkm : ((k : Int) != ati) = true := by simp; omega
              have hkl : ¬ (k : Int) < ati := by omega
              go_wp2_with fail
              refine ht.mono ?_
              rintro e w2 ⟨_, hT⟩
              obtain ⟨rfl, lv', av', i2, s2, t2, o2⟩ := hT HS1.out.1
              have HO2 : Hid (∀ z, (Value.slice gao dm.length gcap).ownBlock = some z → lv'.ownBlock ≠ some z) := fun z hz e => by
                rcases o2 z e with e' | e'
                · exact HAP.out z hz e'
                · have := (HG1.out.lt hz).2; omega
              have hb2x : B2 ≤ w2.heap.size := Nat.le_trans hb2s t2.below.size
              clear o2
              rw [hy] at i2 s2
              have hbx := bl_alloc w2 (.cells #[.string x.nt, .bool x.nwh] 37)
              have HY := Lib.hid (i2.to hbx)
              have HSY := Lib.hid (s2.to hbx)
              have HK2 := Lib.hid (heap_alloc_new w2 (.cells #[.string x.nt, .bool x.nwh] 37))
              have HG2 : Hid (Ls (w2.alloc (.cells #[.string x.nt, .bool x.nwh] 37)) B2 (.slice gao dm.length gcap) dm) := (t2.row HG1.out (by decide) (by decide) (by decide) |> row_to hbx)
              have HW2 : Hid (Ls (w2.alloc (.cells #[.string x.nt, .bool x.nwh] 37)) w.heap.size (.slice wao fl.length wcap) fl) := (t2.row HW1.out (by decide) (by decide) (by decide) |> row_to hbx)
              have HB2 : Hid (Below w.heap.size w (w2.alloc (.cells #[.string x.nt, .bool x.nwh] 37))) := (HB1.out.trans t2.below).trans (hbx.mono i2.lt)
              have hAt := At_any HY.out
              rw [if_neg (by rw [y1]; omega), y2] at hAt
              have hNu := Number_any HY.out
              rw [if_neg (by rw [y1]; omega), y3, y1, y6] at hNu
              have hFr := Fresh_any HY.out
              rw [decide_eq_true (by rw [y1]; omega), y5] at hFr
              have hDa := Data_any HY.out
              rw [if_neg (by rw [y1]; omega), y4] at hDa
              have hLa : Calls Try.prog 14 #[.pointer (some ⟨X, 0, none⟩)] (w2.alloc (.cells #[.string x.nt, .bool x.nwh] 37)) fun e w' => e = .returned (.bool (lastOf y)) ∧ Below (w2.alloc (.cells #[.string x.nt, .bool x.nwh] 37)).heap.size (w2.alloc (.cells #[.string x.nt, .bool x.nwh] 37)) w' := Last_any HY.out
              have k1 := (HB2.out.cell (p := ⟨b, off + k, none⟩) hbl).trans k0
              have HAT := Lib.hid hAt
              have HNU := Lib.hid hNu
              have HFR := Lib.hid hFr
              have HDA := Lib.hid hDa
              have HLA := Lib.hid hLa
              clear hT i2 s2 t2 hbx hAt hNu hFr hDa hLa ht
              go_wp2_with (first
                | (go_at_call 10; refine HAT.out.mono ?_; rintro e w' ⟨rfl, rfl⟩)
                | (go_at_call 11; refine HNU.out.mono ?_; rintro e w' ⟨rfl, rfl⟩)
                | (go_at_call 12; refine HFR.out.mono ?_; rintro e w' ⟨rfl, rfl⟩)
                | (go_at_call 13; refine HDA.out.mono ?_; rintro e w' ⟨rfl, rfl⟩))
              refine HLA.out.mono ?_
              rintro e w5 ⟨rfl, hb5⟩
              have hk5 := (hb5.block _ (lt_of_block HK2.out)).trans HK2.out
              have q0 := (blk_at hk5 0 (v := .string x.nt) rfl).1
              have q1 := (blk_at hk5 1 (v := .bool x.nwh) rfl).1
              have HG5 := Lib.hid (HG2.out.to hb5)
              have HI5 := Lib.hid (HY.out.to hb5)
              have HS5 := Lib.hid (HSY.out.to hb5)
              have HW5 := Lib.hid (HW2.out.to hb5)
              have HB5 : Hid (Below w.heap.size w w5) := HB2.out.trans (hb5.mono HB2.out.size)
              have h63 : dm.length + 1 ≤ maxLen := by unfold maxLen; omega
              have hby : (dm.length + 1) * 24 ≤ 140737488355328 := by omega
              have hws := HB5.out.size
              have hb25 : B2 ≤ w5.heap.size := by have := hb5.size; simp at this; omega
              clear hb5 hk5
              go_wp2_with (at_builtin; go_must (refine wpList_append_lies _ rfl (.tmp 134) (.tmp 136) 29 rfl B2 37 i7 (.agg #[(.string ⟨#[]⟩), (.bool false)]) 2 24 Try.underlying29 hi7 hz70 hz71 hz72 rfl (by decide) (.slice gao dm.length gcap) dm.length (lcells dm) rfl (row_to (bl_alloc w5 _) HG5.out) ⟨w5.heap.size, 0, none⟩ 1 1 [.string x.nt, .bool x.nwh] rfl rfl (cells_two w5 _ _ 37) (by intro u hu; simp at hu; rcases hu with rfl | rfl <;> rfl) (by omega) h63 hby (by simp; omega) (w5.heap.size + 1) (by simp) ?_))
              intro g6 cap6 w6 hown hgrow hat6 hlt6
              have hf6 : Fr (fun i => (Value.slice gao dm.length gcap).ownBlock = some i) w5 w6 := ((Fr.refl _ w5).alloc _).trans (Fr.ofGrown hgrow) (fun i _ hi => hi)
              have hiS : Inp w6 w.heap.size X S lv' y ∧ Src w6 w.heap.size S tv av' (told ts) (List.range y.asked) ∧ Ls w6 w.heap.size (.slice wao fl.length wcap) fl := after_got HI5.out HS5.out HG5.out HW5.out hf6 HO2.out HWL.out
              have hap6 : ∀ z, (Value.slice (some ⟨g6, 0, none⟩) (dm.length + 1) cap6).ownBlock = some z → lv'.ownBlock ≠ some z := by
                intro z hz e
                simp only [Value.ownBlock, Option.some.injEq] at hz
                subst hz
                rcases hat6 with e' | e'
                · exact HO2.out _ e' e
                · obtain ⟨_, _, _, _, hzl, _⟩ := HI5.out.left
                  have := hzl _ e; omega
              have HAP6 := Lib.hid hap6
              have hb26 : B2 ≤ w6.heap.size := Nat.le_trans hb25 hf6.size
              have HB6 := Lib.hid (HB5.out.trans (hf6.toBelow hws (fun i _ hi => Nat.le_trans hb2w (HG5.out.lt hi).1)))
              have HG6 : Hid (Ls w6 B2 (.slice (some ⟨g6, 0, none⟩) (dm.length + 1) cap6) (dm ++ [(x.nt, x.nwh)])) := Ls.snoc rfl hown
              have HIS := Lib.hid hiS
              clear hiS hown hgrow hat6 hlt6 hf6 q0 q1 hap6
              go_wp2_with fail
              go_roundw
              case rel =>
                refine ⟨done ++ [((x.nt, x.nwh), k, m)], R, some (k, m), y, lv', tv, av', HS1.out.2, rfl, ?_, ?_, HIS.out.1, HIS.out.2.1, by rw [HM.out]; exact HG6.out, HFL.out ▸ HIS.out.2.2, HB6.out, HAP6.out, HWL.out, hb26, hb2w⟩
                · rw [if_neg HNE.out, y2]
                · rw [if_neg HNE.out, y3]; have hh := HDM.out; simp; try omega
              case measure => simp [lenOf]; have := HIL.out; omega
end Go.Proofs.Ytlckloeeimilhaa
