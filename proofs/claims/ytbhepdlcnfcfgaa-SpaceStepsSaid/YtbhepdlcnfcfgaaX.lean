/- The walk of SpaceSteps. -/
import Derived.Test.YtbhepdlcnfcfgaaW
namespace Go.Proofs.Ytbhepdlcnfcfgaa
set_option linter.unusedSimpArgs false
set_option linter.unusedVariables false
open Go.RowKit

/-- The reference's own block. -/
def Rf (w : World) (R : Nat) (p h : ByteArray) (rq : Value) (k : Int) : Prop := w.heap[R]? = some (.cells #[.string p, .string h, rq, .int .i64 k] 54 (0, 0))

theorem Rf.to {w w' : World} {R : Nat} {p h : ByteArray} {rq : Value} {k : Int} (r : Rf w R p h rq k) (hb : Below w.heap.size w w') : Rf w' R p h rq k := (hb.block R (lt_of_block r)).trans r
theorem Rf.fr {w w' : World} {R B : Nat} {p h p0 h0 : ByteArray} {rq q : Value} {k k0 : Int} {l : List It} (r : Rf w R p h rq k) (s : St w B B p0 h0 q k0 l) (hf : Fr (fun i => i = B ∨ q.ownBlock = some i) w w') : Rf w' R p h rq k := by
  refine (hf.block R (lt_of_block r) ?_).trans r
  rintro (e | e)
  · subst e; have h1 := s.sp; unfold Sp at h1; unfold Rf at r; rw [r] at h1; simp at h1
  · exact own_ne54 r s.qu e
theorem Rf.at {w w' : World} {R : Nat} {p h : ByteArray} {rq : Value} {k : Int} (r : Rf w R p h rq k) (hb : Below w.heap.size w w') :
    (w'.cell? ⟨R, 0, none⟩ = some (.string p) ∧ w'.cell? ⟨R, 1, none⟩ = some (.string h) ∧ w'.cell? ⟨R, 2, none⟩ = some rq ∧ w'.cell? ⟨R, 3, none⟩ = some (.int .i64 k)) ∧ w'.frozen? ⟨R, 0, none⟩ = false ∧ w'.frozen? ⟨R, 1, none⟩ = false ∧ w'.frozen? ⟨R, 2, none⟩ = false ∧ w'.frozen? ⟨R, 3, none⟩ = false := blk4 hb r
/-- The box of a step, behind the space's own step. -/
theorem box_fr {w w' : World} {B : Nat} {p0 h0 : ByteArray} {q : Value} {k0 : Int} {l : List It} {cs : Array Value} {t : TypeId} (s : St w B B p0 h0 q k0 l) (hf : Fr (fun i => i = B ∨ q.ownBlock = some i) (w.alloc (.cells cs t)) w') : w'.heap[w.heap.size]? = some (.cells cs t (0, 0)) := by
  refine (hf.block _ (by simp) ?_).trans (heap_alloc_new w _)
  rintro (e | e)
  · have := s.sp.lt; omega
  · have := (s.qu.lt e).2; omega

theorem five (a : Bool) (n : Int) : (a = true ∧ n = 7) ∨ (a = true ∧ n = 9) ∨ (a = true ∧ n ≠ 7 ∧ n ≠ 9) ∨ (a = false ∧ n = 9) ∨ (a = false ∧ n ≠ 9) := by
  by_cases h7 : n = 7
  · subst h7; cases a <;> simp
  · by_cases h9 : n = 9
    · subst h9; cases a <;> simp
    · cases a <;> simp [h7, h9]

abbrev stored (w4 : World) (R : Nat) (v0 v1 v2 v3 : Value) : World := ((((w4.setCell ⟨R, 0, none⟩ v0).setCell ⟨R, 1, none⟩ v1).setCell ⟨R, 2, none⟩ v2).setCell ⟨R, 3, none⟩ v3)
theorem stored_at {w4 : World} {R : Nat} {p h p' h' : ByteArray} {rq rq' : Value} {k k' : Int} (r : Rf w4 R p h rq k) : Rf (stored w4 R (.string p') (.string h') rq' (.int .i64 k')) R p' h' rq' k' ∧ Fr (fun i => i = R) w4 (stored w4 R (.string p') (.string h') rq' (.int .i64 k')) := by
  simp only [stored]
  refine ⟨?_, (((((Fr.refl (fun i => i = R) w4).setCell (p := ⟨R, 0, none⟩) rfl _).setCell (p := ⟨R, 1, none⟩) rfl _).setCell (p := ⟨R, 2, none⟩) rfl _).setCell (p := ⟨R, 3, none⟩) rfl _)⟩
  unfold Rf at *
  rw [heap_setCell_same _ _ _ _ _ _ _ (heap_setCell_same _ _ _ _ _ _ _ (heap_setCell_same _ _ _ _ _ _ _ (heap_setCell_same _ _ _ _ _ _ _ r)))]
  rfl

theorem St.frR {w w' : World} {B R : Nat} {p h p0 h0 : ByteArray} {q rq : Value} {k k0 : Int} {l : List It} (s : St w B B p h q k l) (r : Rf w R p0 h0 rq k0) (hf : Fr (fun i => i = R) w w') : St w' B B p h q k l := by
  refine ⟨hf.sp s.sp ?_, hf.qu s.qu ?_, s.inv, s.kle, s.len⟩
  · intro e; subst e; have h1 := s.sp; unfold Sp at h1; unfold Rf at r; rw [r] at h1; simp at h1
  · intro g hg e; subst e; exact own_ne54 r s.qu hg
theorem Qu.frR {w w' : World} {B R : Nat} {p0 h0 : ByteArray} {q rq : Value} {k0 : Int} {l : List It} (s : Qu w B q l) (r : Rf w R p0 h0 rq k0) (hf : Fr (fun i => i = R) w w') : Qu w' B q l := by
  refine hf.qu s ?_
  intro g hg e; subst e; exact own_ne54 r s hg

theorem apart_steps {wr w2 : World} {B : Nat} {q q' rq rq' : Value} {l lq : List It} (hq : Qu wr B rq l) (hap : Apart q rq) (hs2 : Qu w2 B q' lq) (hle : wr.heap.size ≤ w2.heap.size)
    (hat : q'.ownBlock = q.ownBlock ∨ q'.ownBlock = none ∨ ∃ g, q'.ownBlock = some g ∧ wr.heap.size ≤ g)
    (hat' : rq'.ownBlock = rq.ownBlock ∨ rq'.ownBlock = none ∨ ∃ g, rq'.ownBlock = some g ∧ w2.heap.size ≤ g) : Apart q' rq' := by
  intro g hg hi
  have hlt := (hs2.lt hg).2
  rcases hat' with e | e | ⟨g', e, hge⟩
  · rw [e] at hi
    rcases hat with f | f | ⟨g2, f, hge⟩
    · exact hap g (by rw [← f]; exact hg) hi
    · rw [f] at hg; simp at hg
    · rw [f] at hg
      obtain rfl : g2 = g := by simpa using hg
      have := (hq.lt hi).2
      omega
  · rw [e] at hi; simp at hi
  · rw [e] at hi
    obtain rfl : g' = g := by simpa using hi
    omega

theorem S_next5 {w0 W w1 : World} {b c : Nat} {u v0 v1 v2 v3 : Value} (h : W.cell? ⟨c, 0, none⟩ = some u ∧ W.cell? ⟨b, 0, none⟩ = some v0 ∧ W.cell? ⟨b, 1, none⟩ = some v1 ∧ W.cell? ⟨b, 2, none⟩ = some v2 ∧ W.cell? ⟨b, 3, none⟩ = some v3 ∧ Below w0.heap.size w0 W) (hb : Below W.heap.size W w1) :
    w1.cell? ⟨c, 0, none⟩ = some u ∧ w1.cell? ⟨b, 0, none⟩ = some v0 ∧ w1.cell? ⟨b, 1, none⟩ = some v1 ∧ w1.cell? ⟨b, 2, none⟩ = some v2 ∧ w1.cell? ⟨b, 3, none⟩ = some v3 ∧ Below w0.heap.size w0 w1 :=
  ⟨bl_cell hb h.1, S_next4 h.2 hb⟩
theorem S_drew5 {W : World} {b c : Nat} {u v0 v1 v2 v3 : Value} (h0 : W.cell? ⟨c, 0, none⟩ = some u) (h : (W.cell? ⟨b, 0, none⟩ = some v0 ∧ W.cell? ⟨b, 1, none⟩ = some v1 ∧ W.cell? ⟨b, 2, none⟩ = some v2 ∧ W.cell? ⟨b, 3, none⟩ = some v3)) :
    W.drew.cell? ⟨c, 0, none⟩ = some u ∧ W.drew.cell? ⟨b, 0, none⟩ = some v0 ∧ W.drew.cell? ⟨b, 1, none⟩ = some v1 ∧ W.drew.cell? ⟨b, 2, none⟩ = some v2 ∧ W.drew.cell? ⟨b, 3, none⟩ = some v3 ∧ Below W.heap.size W W.drew := ⟨h0, h.1, h.2.1, h.2.2.1, h.2.2.2, (Below.refl _ _).drew⟩
theorem S_bel5 {W w0 : World} {b c : Nat} {u v0 v1 v2 v3 : Value} (h : W.cell? ⟨c, 0, none⟩ = some u ∧ W.cell? ⟨b, 0, none⟩ = some v0 ∧ W.cell? ⟨b, 1, none⟩ = some v1 ∧ W.cell? ⟨b, 2, none⟩ = some v2 ∧ W.cell? ⟨b, 3, none⟩ = some v3 ∧ Below w0.heap.size w0 W) : Below w0.heap.size w0 W := h.2.2.2.2.2

set_option maxRecDepth 4000 in
set_option maxHeartbeats 12800000 in
theorem steps_any (k : Int) (v : Value) (xs : List Stp) (w : World) (hv : Script w v xs) (ht : ∀ x ∈ xs, x.t.size ≤ 140737488355328 ∧ x.it.size ≤ 140737488355328) (hn : xs.length ≤ 5864062014800) :
    Calls Try.prog 7 #[.int .i64 k, v] w fun e w' => e = .returned (.bool true) ∧ Below w.heap.size w w' := by
  obtain ⟨ao, cap, rfl, hcells⟩ := hv.shape
  clear hv
  have HT := Lib.hid ht
  have HC := Lib.hid hcells
  clear ht hcells
  by_cases hk : 0 ≤ k ∧ k ≤ 1073741824
  · obtain ⟨hk0, hk1⟩ := hk
    go_enter Try.func7, Try.ntmps7
    go_wp2_with fail
    refine (New_yes k _ hk0 hk1).mono ?_
    rintro e w1 ⟨rfl, s1, hb1⟩
    have hs1 := hb1.size
    have HA := Lib.hid (bl_alloc w1 (.cells #[.string ⟨#[]⟩, .string ⟨#[]⟩, .slice none 0 0, .int .i64 k] 54))
    have HR0 : Hid (Rf (w1.alloc (.cells #[.string ⟨#[]⟩, .string ⟨#[]⟩, .slice none 0 0, .int .i64 k] 54)) w1.heap.size ⟨#[]⟩ ⟨#[]⟩ (.slice none 0 0) k) := heap_alloc_new w1 _
    have HS1 := Lib.hid s1
    have hBl := s1.sp.lt
    clear s1
    go_wp2_with fail
    refine (like_any w.heap.size _ _ _ (.slice none 0 0) k [] _ (HS1.out.to HA.out) (World.ownsRow_nil _ _ _ _) (by simp)).mono ?_
    rintro e w2 ⟨rfl, hb2⟩
    have HR2 := Lib.hid (HR0.out.to hb2)
    have HS2 := Lib.hid ((HS1.out.to HA.out).to hb2)
    have HB2 : Hid (Below w.heap.size w w2) := bl_to hb1 (bl_to HA.out hb2)
    have hR : w.heap.size ≤ w1.heap.size := by omega
    generalize w1.heap.size = R at *
    clear HA HR0 HS1 hb1 hb2
    go_wp2_with fail
    go_loopw [8] (fun i wr => ∃ (j : Nat) (p h : ByteArray) (q : Value) (l : List It) (ro : Option Addr) (rc : Nat), j ≤ xs.length ∧ i = .int .i64 j ∧ l.length ≤ j ∧ St wr w.heap.size w.heap.size p h q k l ∧ Rf wr R p h (.slice ro l.length rc) k ∧ Qu wr w.heap.size (.slice ro l.length rc) l ∧ Apart q (.slice ro l.length rc) ∧ Below w.heap.size w wr) (fun i _ => xs.length - (intOf i).toNat)
    case atStart => exact ⟨0, _, _, _, [], none, 0, Nat.zero_le _, rfl, Nat.le_refl _, HS2.out, HR2.out, World.ownsRow_nil _ _ _ _, fun g hg => by simp [Value.ownBlock] at hg, HB2.out⟩
    case round =>
      obtain ⟨j, p, h, q, l, ro, rc, hj, rfl, hlj, hs, hr, hrq, hap, hbel⟩ := hrel
      clear HS2 HR2 HB2
      by_cases hlt : j < xs.length
      · obtain ⟨b, off, rfl, hbl, hc⟩ := HC.out (by omega)
        obtain ⟨c0, c1, c2, c3⟩ := hc j hlt
        have htx := HT.out _ (List.getElem_mem hlt)
        have k0 := (hbel.cell (p := ⟨b, off + j * 4, none⟩) hbl).trans c0
        have k1 := (hbel.cell (p := ⟨b, off + j * 4 + 1, none⟩) hbl).trans c1
        have k2 := (hbel.cell (p := ⟨b, off + j * 4 + 2, none⟩) hbl).trans c2
        have k3 := (hbel.cell (p := ⟨b, off + j * 4 + 3, none⟩) hbl).trans c3
        generalize xs[j] = x at *
        clear c0 c1 c2 c3 hc
        obtain ⟨xk, xt, ik, it⟩ := x
        simp only at k0 k1 k2 k3 htx
        have HS := Lib.hid hs
        have HR := Lib.hid hr
        have HQ := Lib.hid hrq
        have HAP := Lib.hid hap
        have HBEL := Lib.hid hbel
        have HAL := Lib.hid (bl_alloc wr (.cells #[.int .i64 xk, .string xt, .int .u8 ik, .string it] 50))
        have hrB := hs.sp.lt
        have HRW : Hid (R < wr.heap.size) := lt_of_block hr
        have hpb : p.size ≤ 1073741824 ∧ h.size ≤ 1073741824 ∧ tot l ≤ 1073741824 := by have := hs.inv; omega
        obtain ⟨hp, hh, htl⟩ := hpb
        clear hs hr hrq hap hbel
        go_wp2_with fail
        refine (do_any w.heap.size p h q k l ⟨xk, xt, ik, it⟩ _ (HS.out.to HAL.out) htx.1 htx.2 (by omega)).mono ?_
        rintro e w3 ⟨bb, to, tn, tc, c, rfl, hd⟩
        obtain ⟨hbb, hcw, htv, q', hs3, hf3, hat3⟩ := hd
        simp only at hbb htv
        have HX3 := Lib.hid (box_fr HS.out hf3)
        have HR3 := Lib.hid ((HR.out.to HAL.out).fr (HS.out.to HAL.out) hf3)
        have HQ3 := Lib.hid (in_push (HS.out.to HAL.out).sp (bl_qu HAL.out HQ.out) HAP.out hf3)
        have HB3 := Lib.hid (bel_do (bl_to HBEL.out HAL.out) (by omega) (HS.out.to HAL.out) hf3)
        have hsz3 := hf3.size
        have HTV := Lib.hid htv
        have HS3 := Lib.hid hs3
        have HAT3 := Lib.hid hat3
        have HCW := Lib.hid hcw
        have HBB := Lib.hid hbb
        obtain ⟨⟨r0, r1, r2, r3⟩, _⟩ := HR3.out.at (Below.refl _ _)
        obtain ⟨⟨x0, x1, x2, x3⟩, _⟩ := blk4 (Below.refl _ _) HX3.out
        clear hbb hcw htv hs3 hf3 hat3 k0 k1 k2 k3
        go_wp2_with (go_at_call 30; refine (First_ref p _ (by omega)).mono ?_; rintro e w' ⟨rfl, rfl⟩)
        refine (Do_any p h _ k l w.heap.size ⟨xk, xt, ik, it⟩ _ HQ3.out hp hh htl htx.1 htx.2 (by omega) (by have := HS3.out.sp.lt; omega)).mono ?_
        rintro e w4 ⟨no, nn, nc, he, hq4, hb4, hat4⟩
        obtain ⟨_, _, hsh, _⟩ := hq4.its.shape
        simp only [Value.slice.injEq] at hsh
        obtain ⟨rfl, rfl, rfl⟩ := hsh
        have HAP4 : Hid (Apart q' (.slice no (aft k ⟨xk, xt, ik, it⟩ p h l).2.2.length nc)) := apart_steps (w2 := w3) HQ.out HAP.out HS3.out.qu (by simp at hsz3; omega) (by
          rcases HAT3.out with e | e | ⟨g, e, hge⟩
          · exact .inl e
          · exact .inr (.inl e)
          · exact .inr (.inr ⟨g, e, by simp at hge; omega⟩)) hat4
        have hl4 := aft_len k ⟨xk, xt, ik, it⟩ p h l
        have HQ4 := Lib.hid hq4
        have HS4 := Lib.hid (HS3.out.to hb4)
        have HR4 := Lib.hid (HR3.out.to hb4)
        have HX4 := Lib.hid ((hb4.block _ (lt_of_block HX3.out)).trans HX3.out)
        have HB4 := Lib.hid (bl_to HB3.out hb4)
        have HTV4 : Hid (xk = 9 → Qu w4 w.heap.size (.slice to tn tc) l) := fun e => bl_qu hb4 (HTV.out e)
        have HQO4 := Lib.hid (bl_qu hb4 HQ3.out)
        have hcw := HCW.out
        clear hq4 hb4 hat4 r0 r1 r2 r3 x0 x1 x2 x3 HS3 HR3 HX3 HB3 HTV HQ3 HCW hsz3
        generalize why k ⟨xk, xt, ik, it⟩ p h l = y at *
        generalize aft k ⟨xk, xt, ik, it⟩ p h l = t at *
        obtain ⟨p', h', l'⟩ := t
        simp only at he hl4 HQ4 HS4 HAP4
        subst he hcw
        have HA4 : Hid (Below w4.heap.size w4 (w4.alloc (.cells #[.string p', .string h', .slice no l'.length nc, .int .i64 k] 54))) := bl_alloc _ _
        obtain ⟨⟨r0, r1, r2, r3⟩, f0, f1, f2, f3⟩ := HR4.out.at HA4.out
        obtain ⟨hr5, hf5⟩ := stored_at (p' := p') (h' := h') (rq' := .slice no l'.length nc) (k' := k) (HR4.out.to HA4.out)
        have HR5 := Lib.hid hr5
        have HS5 := Lib.hid ((HS4.out.to HA4.out).frR (HR4.out.to HA4.out) hf5)
        have HQ5 := Lib.hid ((bl_qu HA4.out HQ4.out).frR (HR4.out.to HA4.out) hf5)
        have HB5 : Hid (Below w.heap.size w (stored (w4.alloc (.cells #[.string p', .string h', .slice no l'.length nc, .int .i64 k] 54)) R (.string p') (.string h') (.slice no l'.length nc) (.int .i64 k))) := (bl_to HB4.out HA4.out).trans (hf5.toBelow (bl_to HB4.out HA4.out).size (fun i _ e => by have e2 : i = R := e; omega))
        have hx5 : (stored (w4.alloc (.cells #[.string p', .string h', .slice no l'.length nc, .int .i64 k] 54)) R (.string p') (.string h') (.slice no l'.length nc) (.int .i64 k)).cell? ⟨wr.heap.size, 0, none⟩ = some (.int .i64 xk) := by
          have e := (hf5.block wr.heap.size (by have := lt_of_block HX4.out; have := HA4.out.size; omega) (fun e => by have := HRW.out; have e2 : wr.heap.size = R := e; omega)).trans ((HA4.out.block _ (lt_of_block HX4.out)).trans HX4.out)
          simp [World.cell?, e]
        have HT5 : Hid (xk = 9 → Its (stored (w4.alloc (.cells #[.string p', .string h', .slice no l'.length nc, .int .i64 k] 54)) R (.string p') (.string h') (.slice no l'.length nc) (.int .i64 k)) (.slice to tn tc) l) := fun e => ((bl_qu HA4.out (HTV4.out e)).frR (HR4.out.to HA4.out) hf5).its
        have HO5 := Lib.hid (((bl_qu HA4.out HQO4.out).frR (HR4.out.to HA4.out) hf5).its)
        obtain ⟨⟨y0, y1, y2, y3⟩, _⟩ := HR5.out.at (Below.refl _ _)
        simp only [stored] at hx5 y0 y1 y2 y3
        clear hr5 hf5 HS4 HQ4 HR4 HX4 HB4 HTV4 HQO4 HA4
        have hl5 : l'.length ≤ 4611686018427387904 := by omega
        have hl0 : l.length ≤ 4611686018427387904 := by omega
        have HF : Hid ((nlIs p = true ∧ xk = 7) ∨ (nlIs p = true ∧ xk = 9) ∨ (nlIs p = true ∧ xk ≠ 7 ∧ xk ≠ 9) ∨ (nlIs p = false ∧ xk = 9) ∨ (nlIs p = false ∧ xk ≠ 9)) := five _ _
        have hbb := HBB.out
        clear HBB
        rcases HF.out with ⟨e1, rfl⟩ | ⟨e1, rfl⟩ | ⟨e1, e7, e9⟩ | ⟨e1, rfl⟩ | ⟨e1, e9⟩
        · rw [e1] at hbb ⊢; simp only [decide_true, Bool.and_self] at hbb
          subst hbb
          clear HF
          go_wp2_with fail
          refine (like_any w.heap.size p' h' q' _ k l' _ HS5.out HQ5.out hl5).mono ?_
          rintro e wu ⟨rfl, hbu⟩
          have HB6 := Lib.hid hbu
          clear hbu
          go_wp2_with fail
          go_roundw
          case rel => exact ⟨j + 1, p', h', q', l', no, nc, by omega, by go_num, by omega, HS5.out.to HB6.out, HR5.out.to HB6.out, bl_qu HB6.out HQ5.out, HAP4.out, bl_to HB5.out HB6.out⟩
          case measure => simp [intOf]; omega
        · rw [e1] at hbb ⊢; replace hbb : bb = false := by rw [hbb]; rfl
          subst hbb
          clear HF
          go_wp2_with fail
          refine (Same_yes _ _ l _ (by first | exact HT5.out rfl | exact HT5.out trivial) HO5.out hl0).mono ?_
          rintro e ws ⟨rfl, hbx⟩
          obtain ⟨⟨z0, z1, z2, z3⟩, _⟩ := HR5.out.at hbx
          have HX := Lib.hid hbx
          clear hbx
          go_wp2_with fail
          refine (like_any w.heap.size p' h' q' _ k l' _ (HS5.out.to HX.out) (bl_qu HX.out HQ5.out) hl5).mono ?_
          rintro e wu ⟨rfl, hbu⟩
          have HB6 := Lib.hid (bl_to HX.out hbu)
          clear hbu
          go_wp2_with fail
          go_roundw
          case rel => exact ⟨j + 1, p', h', q', l', no, nc, by omega, by go_num, by omega, HS5.out.to HB6.out, HR5.out.to HB6.out, bl_qu HB6.out HQ5.out, HAP4.out, bl_to HB5.out HB6.out⟩
          case measure => simp [intOf]; omega
        · rw [e1] at hbb ⊢; replace hbb : bb = false := by rw [hbb]; simp [e7]
          have n7 : (xk == 7) = false := by simp [e7]
          have n9 : (xk == 9) = false := by simp [e9]
          subst hbb
          clear HF
          go_wp2_with fail
          refine (like_any w.heap.size p' h' q' _ k l' _ HS5.out HQ5.out hl5).mono ?_
          rintro e wu ⟨rfl, hbu⟩
          have HB6 := Lib.hid hbu
          clear hbu
          go_wp2_with fail
          go_roundw
          case rel => exact ⟨j + 1, p', h', q', l', no, nc, by omega, by go_num, by omega, HS5.out.to HB6.out, HR5.out.to HB6.out, bl_qu HB6.out HQ5.out, HAP4.out, bl_to HB5.out HB6.out⟩
          case measure => simp [intOf]; omega
        · rw [e1] at hbb ⊢; replace hbb : bb = false := by rw [hbb]; simp
          subst hbb
          clear HF
          go_wp2_with fail
          refine (Same_yes _ _ l _ (by first | exact HT5.out rfl | exact HT5.out trivial) HO5.out hl0).mono ?_
          rintro e ws ⟨rfl, hbx⟩
          obtain ⟨⟨z0, z1, z2, z3⟩, _⟩ := HR5.out.at hbx
          have HX := Lib.hid hbx
          clear hbx
          go_wp2_with fail
          refine (like_any w.heap.size p' h' q' _ k l' _ (HS5.out.to HX.out) (bl_qu HX.out HQ5.out) hl5).mono ?_
          rintro e wu ⟨rfl, hbu⟩
          have HB6 := Lib.hid (bl_to HX.out hbu)
          clear hbu
          go_wp2_with fail
          go_roundw
          case rel => exact ⟨j + 1, p', h', q', l', no, nc, by omega, by go_num, by omega, HS5.out.to HB6.out, HR5.out.to HB6.out, bl_qu HB6.out HQ5.out, HAP4.out, bl_to HB5.out HB6.out⟩
          case measure => simp [intOf]; omega
        · rw [e1] at hbb ⊢; replace hbb : bb = false := by rw [hbb]; simp
          have n9 : (xk == 9) = false := by simp [e9]
          subst hbb
          clear HF
          go_wp2_with fail
          refine (like_any w.heap.size p' h' q' _ k l' _ HS5.out HQ5.out hl5).mono ?_
          rintro e wu ⟨rfl, hbu⟩
          have HB6 := Lib.hid hbu
          clear hbu
          go_wp2_with fail
          go_roundw
          case rel => exact ⟨j + 1, p', h', q', l', no, nc, by omega, by go_num, by omega, HS5.out.to HB6.out, HR5.out.to HB6.out, bl_qu HB6.out HQ5.out, HAP4.out, bl_to HB5.out HB6.out⟩
          case measure => simp [intOf]; omega
      · go_wp2_with fail
        go_ret
        exact ⟨rfl, hbel⟩
  · have HK : k < 0 ∨ 1073741824 < k := by omega
    have HK' := Lib.hid HK
    rcases HK with hk' | hk'
    · go_enter Try.func7, Try.ntmps7
      go_wp2_with fail
      refine (New_no k _ HK'.out).mono ?_
      rintro e w1 ⟨rfl, rfl⟩
      go_wp2_with fail
      go_ret
      exact ⟨by simp [hk'], Below.refl _ _⟩
    · have hk0 : ¬ k < 0 := by omega
      go_enter Try.func7, Try.ntmps7
      go_wp2_with fail
      refine (New_no k _ HK'.out).mono ?_
      rintro e w1 ⟨rfl, rfl⟩
      go_wp2_with fail
      go_ret
      exact ⟨by simp [hk'], Below.refl _ _⟩

end Go.Proofs.Ytbhepdlcnfcfgaa
