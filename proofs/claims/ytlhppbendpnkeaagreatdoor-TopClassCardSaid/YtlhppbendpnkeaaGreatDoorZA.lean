/- sets: Bracket (printed by genZA.py). -/
import Derived.Test.YtlhppbendpnkeaaGreatDoorZ
namespace Go.Proofs.YtlhppbendpnkeaaGreatDoor
set_option linter.unusedSimpArgs false
set_option linter.unusedVariables false
open Go.RowKit

/-- The state of Bracket between two rounds. -/
structure BrS (w : World) (s : ByteArray) (f : Nat → Bool) (i : Nat) (wr : World) : Prop where
  res : wr.heap[w.heap.size]? = some (.cells (setC noneF) 24 (0, 0))
  rd : Re wr (w.heap.size + 1) s i
  var : wr.heap[w.heap.size + 1 + 1]? = some (.cells (setC f) 24 (0, 0))
  below : Below w.heap.size w wr
def posOf (w : World) (n : Nat) (wr : World) : Nat := n + 1 - (intOf ((wr.cell? ⟨w.heap.size + 1, 1, none⟩).getD undef)).toNat
theorem BrS.pos {w : World} {s : ByteArray} {f : Nat → Bool} {i : Nat} {wr : World} (h : BrS w s f i wr) (n : Nat) : posOf w n wr = n + 1 - i := by
  unfold posOf; rw [h.rd.c1.1]; simp [intOf]
theorem BrS.mid {w : World} {s : ByteArray} {f : Nat → Bool} {i j : Nat} {wr w2 : World} (h : BrS w s f i wr) (hr : Re w2 (w.heap.size + 1) s j) (hx : Ex (w.heap.size + 1) wr w2) : BrS w s f j w2 :=
  ⟨(hx.block _ (blk_lt h.res) (by omega)).trans h.res, hr, (hx.block _ (blk_lt h.var) (by omega)).trans h.var, h.below.trans (hx.below (by omega) h.below.size)⟩
theorem BrS.to {w : World} {s : ByteArray} {f : Nat → Bool} {i : Nat} {wr w2 : World} (h : BrS w s f i wr) (hb : Below wr.heap.size wr w2) : BrS w s f i w2 :=
  h.mid (h.rd.to hb) (Ex.ofBelow hb)
theorem BrS.set {w : World} {s : ByteArray} {f : Nat → Bool} {i : Nat} {wr : World} (h : BrS w s f i wr) (f' : Nat → Bool) : BrS w s f' i (wr.setRow (w.heap.size + 1 + 1) (setC f')) :=
  ⟨by rw [setRow_other _ _ _ _ (by omega)]; exact h.res, h.rd.row (by omega) _, setRow_heap _ _ _ _ _ _ h.var, below_setRow h.below (by omega) _⟩
theorem BrS.vars {w : World} {s : ByteArray} {f : Nat → Bool} {i : Nat} {wr : World} (h : BrS w s f i wr) : (wr.cell? ⟨w.heap.size + 1 + 1, 0, none⟩ = some (.int .u64 (sW f 0 : Nat)) ∧ wr.cell? ⟨w.heap.size + 1 + 1, 1, none⟩ = some (.int .u64 (sW f 1 : Nat)) ∧ wr.cell? ⟨w.heap.size + 1 + 1, 2, none⟩ = some (.int .u64 (sW f 2 : Nat)) ∧ wr.cell? ⟨w.heap.size + 1 + 1, 3, none⟩ = some (.int .u64 (sW f 3 : Nat))) ∧
    wr.frozen? ⟨w.heap.size + 1 + 1, 0, none⟩ = false ∧ wr.frozen? ⟨w.heap.size + 1 + 1, 1, none⟩ = false ∧ wr.frozen? ⟨w.heap.size + 1 + 1, 2, none⟩ = false ∧ wr.frozen? ⟨w.heap.size + 1 + 1, 3, none⟩ = false :=
  ⟨⟨(blk_at h.var 0 rfl).1, (blk_at h.var 1 rfl).1, (blk_at h.var 2 rfl).1, (blk_at h.var 3 rfl).1⟩, (blk_at h.var 0 rfl).2, (blk_at h.var 1 rfl).2, (blk_at h.var 2 rfl).2, (blk_at h.var 3 rfl).2⟩
theorem BrS.own {w : World} {s : ByteArray} {f : Nat → Bool} {i : Nat} {wr : World} (h : BrS w s f i wr) {x : Nat} (hx : w.heap.size + 1 + 1 < x) (o : Nat) (v : Value) : BrS w s f i (wr.setCell ⟨x, o, none⟩ v) :=
  ⟨(Below.heap_setCell _ _ _ _ (by show w.heap.size ≠ x; omega)).trans h.res, (Below.heap_setCell _ _ _ _ (by show w.heap.size + 1 ≠ x; omega)).trans h.rd, (Below.heap_setCell _ _ _ _ (by show w.heap.size + 1 + 1 ≠ x; omega)).trans h.var, h.below.setCell (p := ⟨x, o, none⟩) (by show w.heap.size ≤ x; omega) v⟩
theorem BrS.move {w : World} {s : ByteArray} {f : Nat → Bool} {i : Nat} {wr : World} (h : BrS w s f i wr) (j : Nat) : BrS w s f j (wr.setCell ⟨w.heap.size + 1, 1, none⟩ (.int .i64 (j : Int))) :=
  h.mid (h.rd.set j) ((Ex.refl _ _).set 1 _)
theorem cell4_ne {w : World} {x : Nat} {p : Addr} (h : p.block ≠ x) (a b c d : Value) : ((((w.setCell ⟨x, 0, none⟩ a).setCell ⟨x, 1, none⟩ b).setCell ⟨x, 2, none⟩ c).setCell ⟨x, 3, none⟩ d).cell? p = w.cell? p := by
  refine World.cell?_of_block ?_
  rw [Below.heap_setCell _ _ _ _ h, Below.heap_setCell _ _ _ _ h, Below.heap_setCell _ _ _ _ h, Below.heap_setCell _ _ _ _ h]
theorem not_words (f : Nat → Bool) (W : World) : Calls Tryz.prog 11 #[.agg #[.int .u64 (sW f 0 : Nat), .int .u64 (sW f 1 : Nat), .int .u64 (sW f 2 : Nat), .int .u64 (sW f 3 : Nat)]] W
    fun e w' => e = .returned (.agg #[.int .u64 (sW (fun c => !f c) 0 : Nat), .int .u64 (sW (fun c => !f c) 1 : Nat), .int .u64 (sW (fun c => !f c) 2 : Nat), .int .u64 (sW (fun c => !f c) 3 : Nat)]) ∧ Below W.heap.size W w' := Not_any f W
theorem range_words (a b : Nat) (ha : a < 256) (hb : b < 256) (W : World) : Calls Tryz.prog 92 #[.int .u8 (a : Int), .int .u8 (b : Int)] W
    fun e w' => e = .returned (.agg #[.int .u64 (sW (rangeF a (b + 1)) 0 : Nat), .int .u64 (sW (rangeF a (b + 1)) 1 : Nat), .int .u64 (sW (rangeF a (b + 1)) 2 : Nat), .int .u64 (sW (rangeF a (b + 1)) 3 : Nat)]) ∧ Below W.heap.size W w' := Range_any a b ha hb W
theorem setC_inR2 (qs : List (Nat × Nat)) (p : Nat × Nat) : setC (fun c => inR qs c || rangeF p.1 (p.2 + 1) c) = setC (inR (qs ++ [p])) := setC_congr (fun c _ => by
  rw [inR_append]
  congr 1
  simp only [inR, inP, List.any_cons, List.any_nil, Bool.or_false, rangeF]
  congr 1; apply propext; omega)
theorem four_row {w : World} {b : Nat} {a0 a1 a2 a3 : Value} {t : TypeId} (h : w.heap[b]? = some (.cells #[a0, a1, a2, a3] t (0, 0))) (v0 v1 v2 v3 : Value) :
    (((w.setCell ⟨b, 0, none⟩ v0).setCell ⟨b, 1, none⟩ v1).setCell ⟨b, 2, none⟩ v2).setCell ⟨b, 3, none⟩ v3 = w.setRow b #[v0, v1, v2, v3] := by
  rw [setCell_eq_setRow w b 0 _ t _ v0 h]
  rw [setCell_eq_setRow _ b 1 _ t _ v1 (setRow_heap _ _ _ _ _ _ h), setRow_setRow]
  rw [setCell_eq_setRow _ b 2 _ t _ v2 (setRow_heap _ _ _ _ _ _ h), setRow_setRow]
  rw [setCell_eq_setRow _ b 3 _ t _ v3 (setRow_heap _ _ _ _ _ _ h), setRow_setRow]
  rfl
/-- Or, its words written out. -/
theorem or_words (f g : Nat → Bool) (W : World) : Calls Tryz.prog 93 #[.agg #[.int .u64 (sW f 0 : Nat), .int .u64 (sW f 1 : Nat), .int .u64 (sW f 2 : Nat), .int .u64 (sW f 3 : Nat)], .agg #[.int .u64 (sW g 0 : Nat), .int .u64 (sW g 1 : Nat), .int .u64 (sW g 2 : Nat), .int .u64 (sW g 3 : Nat)]] W
    fun e w' => e = .returned (.agg #[.int .u64 (sW (fun c => f c || g c) 0 : Nat), .int .u64 (sW (fun c => f c || g c) 1 : Nat), .int .u64 (sW (fun c => f c || g c) 2 : Nat), .int .u64 (sW (fun c => f c || g c) 3 : Nat)]) ∧ Below W.heap.size W w' := Or_any f g W
theorem setC_inR (qs : List (Nat × Nat)) (p : Nat × Nat) (h : p.1 = p.2) : setC (fun c => inR qs c || oneF p.1 c) = setC (inR (qs ++ [p])) := setC_congr (fun c _ => by
  rw [inR_append]
  congr 1
  simp only [inR, inP, List.any_cons, List.any_nil, Bool.or_false, oneF]
  rw [Bool.eq_iff_iff]; simp; omega)

set_option maxRecDepth 8000 in
set_option maxHeartbeats 6400000 in
theorem Bracket_any (s : ByteArray) (b : Bool) (ps : List (Nat × Nat)) (rest : Bs) (w : World) (hsz : s.size ≤ 65536)
    (hs : s.data.toList = (if b then [94] else []) ++ (ps.flatMap itT ++ 93 :: rest)) (hne : ps ≠ []) (hps : ∀ p ∈ ps, p.1 ≤ p.2 ∧ p.2 < 256) :
    Calls Tryz.prog 73 #[.string s] w fun e w' => e = .returned (.tuple #[setV (if b then fun c => !inR ps c else inR ps), .int .i64 ((s.size - rest.length : Nat) : Int), .int .i64 0, .int .i64 0]) ∧ Below w.heap.size w w' := by
  have hpos : 0 < s.size := by
    have := congrArg List.length hs
    simp at this
    omega
  have l0 : (0 : Int) < (s.size : Int) := by omega
  cases b with
  | false =>
    have hs0 : s.data.toList.drop 0 = ps.flatMap itT ++ 93 :: rest := hs
    have q1 : (((s[0]'hpos).toNat : Int) == 94) = false := by
      obtain ⟨a, r, e, h45, h94, h93⟩ := items_head ps hps rest
      rw [e] at hs0
      obtain ⟨hi, ha, _⟩ := get_head hs0
      rw [ha]
      have : a.toNat ≠ 94 := fun e => h94 (by rw [← UInt8.toNat_inj]; exact e)
      simp; omega
    have HS0 := Lib.hid hs0
    have HPS := Lib.hid hps
    have HNE := Lib.hid hne
    clear hs hs0 hps hne
    go_enter Tryz.func73, Tryz.ntmps73
    go_wp2_with fail
    go_loopw [9] (fun s9 wr => ∃ (qs rs : List (Nat × Nat)) (i : Nat) (fst : Bool), ps = qs ++ rs ∧ s9 = .bool fst ∧ (fst = true ↔ qs = []) ∧ s.data.toList.drop i = rs.flatMap itT ++ 93 :: rest ∧ BrS w s (inR qs) i wr) (fun _ wr => posOf w s.size wr)
    case atStart =>
      refine ⟨[], ps, 0, true, rfl, rfl, by simp, HS0.out, ⟨?_, ?_, ?_, by go_grown⟩⟩
      · rw [Below.heap_alloc _ _ _ (by simp; omega), Below.heap_alloc _ _ _ (by simp), heap_alloc_new, setC_none]
      · show _ = _
        rw [Below.heap_alloc _ _ _ (by simp)]
        have h := heap_alloc_new (w.alloc (.cells #[.int .u64 0, .int .u64 0, .int .u64 0, .int .u64 0] 24)) (.cells (rdC s 0) 119)
        simpa [rdC] using h
      · have h := heap_alloc_new ((w.alloc (.cells #[.int .u64 0, .int .u64 0, .int .u64 0, .int .u64 0] 24)).alloc (.cells (rdC s 0) 119)) (.cells (setC (inR [])) 24)
        have e : setC (inR []) = setC noneF := setC_congr (fun c _ => rfl)
        rw [e, setC_none] at h ⊢
        simpa [rdC] using h
    case round =>
      obtain ⟨qs, rs, i, fst, hqr, rfl, hfst, hd, hst⟩ := hrel
      have HD := Lib.hid hd
      have HST := Lib.hid hst
      have HQR := Lib.hid hqr
      have HF := Lib.hid hfst
      clear hd hst hqr hfst
      have c0 := HST.out.rd.c0
      have c1 := HST.out.rd.c1.1
      cases rs with
      | nil =>
        have hq : qs = ps := by rw [HQR.out]; simp
        have hff : fst = false := by
          cases fst with
          | false => rfl
          | true => exact absurd (HF.out.1 rfl) (by rw [hq]; exact HNE.out)
        subst hq
        subst hff
        obtain ⟨hi, hsa, hlen⟩ := get_head (s := s) (i := i) (a := 93) (r := rest) HD.out
        have z1 : ¬ (s.size : Int) ≤ (i : Int) := by omega
        have z2 : decide ((s.size : Int) ≤ (i : Int)) = false := decide_eq_false z1
        have z3 : (i : Int) < (s.size : Int) := by omega
        have z4 : (0 : Int) ≤ (i : Int) := by omega
        have z5 : (((s[i]'hi).toNat : Int) == 93) = true := by rw [hsa]; rfl
        have z6 : ((s[i]'hi).toNat : Int) = 93 := by rw [hsa]; rfl
        have c2 := HST.out.rd.c2.1
        have hend : s.size - rest.length = i + 1 := by omega
        have y4 : IntKind.i64.wrap ((i : Int) + 1) = (i : Int) + 1 := wrap_in _ (by omega) (by omega)
        obtain ⟨⟨v0, v1, v2, v3⟩, -⟩ := HST.out.vars
        obtain ⟨d0, e0⟩ := blk_at HST.out.res 0 rfl
        obtain ⟨d1, e1⟩ := blk_at HST.out.res 1 rfl
        obtain ⟨d2, e2⟩ := blk_at HST.out.res 2 rfl
        obtain ⟨d3, e3⟩ := blk_at HST.out.res 3 rfl
        have HEND := Lib.hid hend
        clear hsa hlen hend
        go_wp2_with fail
        go_region
        go_wp2_with fail
        rw [four_row HST.out.res]
        obtain ⟨W', hW'⟩ : ∃ W, (wr.setRow w.heap.size #[.int .u64 (sW (inR qs) 0 : Nat), .int .u64 (sW (inR qs) 1 : Nat), .int .u64 (sW (inR qs) 2 : Nat), .int .u64 (sW (inR qs) 3 : Nat)]).drew = W := ⟨_, rfl⟩
        have hbW : W'.heap[w.heap.size]? = some (.cells (setC (inR qs)) 24 (0, 0)) := by rw [← hW']; exact setRow_heap _ _ _ _ _ _ HST.out.res
        have hlW : Below w.heap.size w W' := by rw [← hW']; exact (below_setRow HST.out.below (Nat.le_refl _) _).drew
        rw [hW']
        have t0 := (blk_at hbW 0 rfl).1
        have t1 := (blk_at hbW 1 rfl).1
        have t2 := (blk_at hbW 2 rfl).1
        have t3 := (blk_at hbW 3 rfl).1
        refine bodyPost_ret (v := .tuple #[.agg #[.int .u64 (sW (inR qs) 0 : Nat), .int .u64 (sW (inR qs) 1 : Nat), .int .u64 (sW (inR qs) 2 : Nat), .int .u64 (sW (inR qs) 3 : Nat)], .int .i64 ((i : Int) + 1), .int .i64 0, .int .i64 0]) (by simp [results, Tryz.results73, go_sem, t0, t1, t2, t3]; exact ⟨rfl, rfl, rfl, rfl⟩) rfl ?_
        refine ⟨?_, hlW⟩
        rw [HEND.out]
        rfl
      | cons p rs =>
        have hp : p.1 ≤ p.2 ∧ p.2 < 256 := HPS.out p (by rw [HQR.out]; simp)
        have hrs : ∀ x ∈ rs, x.1 ≤ x.2 ∧ x.2 < 256 := fun x hx => HPS.out x (by rw [HQR.out]; simp [hx])
        obtain ⟨a, r, ha, ha93, -, -⟩ := elem_head p.1 (by omega)
        have hdh : s.data.toList.drop i = (itT p) ++ (rs.flatMap itT ++ 93 :: rest) := by rw [HD.out]; simp
        have hi0 : ∃ t, s.data.toList.drop i = elemB p.1 ++ t := by
          rw [hdh]
          by_cases e : p.1 = p.2
          · exact ⟨_, by rw [show itT p = elemB p.1 by unfold itT; rw [if_pos e]]⟩
          · exact ⟨45 :: elemB p.2 ++ (rs.flatMap itT ++ 93 :: rest), by rw [show itT p = elemB p.1 ++ 45 :: elemB p.2 by unfold itT; rw [if_neg e]]; simp⟩
        obtain ⟨t, ht⟩ := hi0
        obtain ⟨hi, hsa, hlen⟩ := get_head (a := a) (r := r ++ t) (by rw [ht, ha]; rfl)
        have z1 : ¬ (s.size : Int) ≤ (i : Int) := by omega
        have z2 : decide ((s.size : Int) ≤ (i : Int)) = false := decide_eq_false z1
        have z3 : (i : Int) < (s.size : Int) := by omega
        have z4 : (0 : Int) ≤ (i : Int) := by omega
        have z5 : (((s[i]'hi).toNat : Int) == 93) = false := by
          rw [hsa]
          have : a.toNat ≠ 93 := fun e => ha93 (by rw [← UInt8.toNat_inj]; exact e)
          simp; omega
        have z6 : ¬ ((s[i]'hi).toNat : Int) = 93 := by simpa using z5
        have HIT := Lib.hid (item_any (w.heap.size + 1) s i p.1 t wr HST.out.rd hsz (by omega) ht)
        obtain ⟨j, hj⟩ : ∃ j, i + (elemB p.1).length = j := ⟨_, rfl⟩
        have hij : i < j := by
          rw [← hj, ha]; simp
        rw [hj] at HIT
        have HDJ : Hid (s.data.toList.drop j = t) := by rw [← hj]; exact drop_more ht
        have HDH := Lib.hid hdh
        have HT := Lib.hid ht
        clear hdh ht hlen hsa ha
        by_cases hone : p.1 = p.2
        · have hti : t = rs.flatMap itT ++ 93 :: rest := by
            have h1 := HDH.out
            rw [HT.out, show itT p = elemB p.1 by unfold itT; rw [if_pos hone]] at h1
            exact List.append_cancel_left h1
          obtain ⟨a2, r2, ha2, h45, -, -⟩ := items_head rs hrs rest
          obtain ⟨hi2, hsa2, hlen2⟩ := get_head (s := s) (i := j) (a := a2) (r := r2) (by rw [HDJ.out, hti, ha2])
          have y0 : (((s[j]'hi2).toNat : Int) == 45) = false := by
            rw [hsa2]
            have : a2.toNat ≠ 45 := fun e => h45 (by rw [← UInt8.toNat_inj]; exact e)
            simp; omega
          have y1 : ¬ ((s[j]'hi2).toNat : Int) = 45 := by simpa using y0
          have y2 : (j : Int) < (s.size : Int) := by omega
          have y3 : (0 : Int) ≤ (j : Int) := by omega
          have y4 : IntKind.i64.wrap ((j : Int) + 1) = (j : Int) + 1 := wrap_in _ (by omega) (by omega)
          clear ha2 hsa2 hlen2
          have HONE := Lib.hid hone
          clear hone
          cases fst
          all_goals
            go_wp2_with fail
            refine HIT.out.mono ?_
            rintro e w2 ⟨rfl, hr2, hx2⟩
            have HS2 := Lib.hid (HST.out.mid hr2 hx2)
            have hsz2 := blk_lt HS2.out.var
            obtain ⟨⟨v0, v1, v2, v3⟩, u0, u1, u2, u3⟩ := HS2.out.vars
            have k0 := HS2.out.rd.c0
            have k1 := HS2.out.rd.c1.1
            have k2 := HS2.out.rd.c2.1
            have K1 := fun ob => bl_cell (bl_alloc w2 ob) k1
            have K2 := fun ob => bl_cell (bl_alloc w2 ob) k2
            have V0 := fun ob => bl_cell (bl_alloc w2 ob) v0
            have V1 := fun ob => bl_cell (bl_alloc w2 ob) v1
            have V2 := fun ob => bl_cell (bl_alloc w2 ob) v2
            have V3 := fun ob => bl_cell (bl_alloc w2 ob) v3
            clear hr2 hx2 c0 c1 HIT u0 u1 u2 u3 k0 k1 k2 v0 v1 v2 v3
            unfold itC
            by_cases hj1 : j + 1 < s.size
            · have t1 : (j : Int) + 1 < (s.size : Int) := by omega
              have t2 : decide ((j : Int) + 1 < (s.size : Int)) = true := decide_eq_true t1
              go_wp2_with fail
              refine (or_words (inR qs) (oneF p.1) _).mono ?_
              rintro e w6 ⟨rfl, hb6⟩
              have HS6 := Lib.hid ((HS2.out.to (bl_alloc w2 _)).to hb6)
              obtain ⟨⟨x0, x1, x2, x3⟩, f0, f1, f2, f3⟩ := HS6.out.vars
              clear hb6 K1 K2 V0 V1 V2 V3
              go_wp2_with fail
              rw [four_row HS6.out.var]
              have HSN : Hid (BrS w s (inR (qs ++ [p])) j (w6.setRow (w.heap.size + 1 + 1) (setC (fun c => inR qs c || oneF p.1 c)))) := by
                show BrS _ _ _ _ _
                rw [setC_inR qs p HONE.out]; exact HS6.out.set _
              go_roundw
              case rel => exact ⟨qs ++ [p], rs, j, false, by rw [HQR.out]; simp, rfl, by simp, by rw [HDJ.out, hti], HSN.out⟩
              case measure =>
                have e1 := HSN.out.pos s.size
                have e2 := HST.out.pos s.size
                have e3 : (w6.setRow (w.heap.size + 1 + 1) (setC (fun c => inR qs c || oneF p.1 c))) = (w6.setRow (w.heap.size + 1 + 1) #[.int .u64 (sW (fun c => inR qs c || oneF p.1 c) 0 : Nat), .int .u64 (sW (fun c => inR qs c || oneF p.1 c) 1 : Nat), .int .u64 (sW (fun c => inR qs c || oneF p.1 c) 2 : Nat), .int .u64 (sW (fun c => inR qs c || oneF p.1 c) 3 : Nat)]) := rfl
                rw [e3] at e1
                rw [e1, e2]; omega
            · have t1 : ¬ (j : Int) + 1 < (s.size : Int) := by omega
              have t2 : decide ((j : Int) + 1 < (s.size : Int)) = false := decide_eq_false t1
              go_wp2_with fail
              refine (or_words (inR qs) (oneF p.1) _).mono ?_
              rintro e w6 ⟨rfl, hb6⟩
              have HS6 := Lib.hid ((HS2.out.to (bl_alloc w2 _)).to hb6)
              obtain ⟨⟨x0, x1, x2, x3⟩, f0, f1, f2, f3⟩ := HS6.out.vars
              clear hb6 K1 K2 V0 V1 V2 V3
              go_wp2_with fail
              rw [four_row HS6.out.var]
              have HSN : Hid (BrS w s (inR (qs ++ [p])) j (w6.setRow (w.heap.size + 1 + 1) (setC (fun c => inR qs c || oneF p.1 c)))) := by
                show BrS _ _ _ _ _
                rw [setC_inR qs p HONE.out]; exact HS6.out.set _
              go_roundw
              case rel => exact ⟨qs ++ [p], rs, j, false, by rw [HQR.out]; simp, rfl, by simp, by rw [HDJ.out, hti], HSN.out⟩
              case measure =>
                have e1 := HSN.out.pos s.size
                have e2 := HST.out.pos s.size
                have e3 : (w6.setRow (w.heap.size + 1 + 1) (setC (fun c => inR qs c || oneF p.1 c))) = (w6.setRow (w.heap.size + 1 + 1) #[.int .u64 (sW (fun c => inR qs c || oneF p.1 c) 0 : Nat), .int .u64 (sW (fun c => inR qs c || oneF p.1 c) 1 : Nat), .int .u64 (sW (fun c => inR qs c || oneF p.1 c) 2 : Nat), .int .u64 (sW (fun c => inR qs c || oneF p.1 c) 3 : Nat)]) := rfl
                rw [e3] at e1
                rw [e1, e2]; omega
        · have hti : t = 45 :: elemB p.2 ++ (rs.flatMap itT ++ 93 :: rest) := by
            have h1 := HDH.out
            rw [HT.out, show itT p = elemB p.1 ++ 45 :: elemB p.2 by unfold itT; rw [if_neg hone], List.append_assoc] at h1
            exact List.append_cancel_left h1
          obtain ⟨a2, r2, ha2, h93, -, -⟩ := elem_head p.2 (by omega)
          have hdj1 : s.data.toList.drop (j + 1) = elemB p.2 ++ (rs.flatMap itT ++ 93 :: rest) := by
            have h1 : s.data.toList.drop j = [45] ++ (elemB p.2 ++ (rs.flatMap itT ++ 93 :: rest)) := by rw [HDJ.out, hti]; simp
            exact drop_more h1
          obtain ⟨hi2, hsa2, hlen2⟩ := get_head (s := s) (i := j) (a := 45) (r := elemB p.2 ++ (rs.flatMap itT ++ 93 :: rest)) (by rw [HDJ.out, hti]; simp)
          obtain ⟨hi3, hsa3, hlen3⟩ := get_head (s := s) (i := j + 1) (a := a2) (r := r2 ++ (rs.flatMap itT ++ 93 :: rest)) (by rw [hdj1, ha2]; simp)
          have y0 : (((s[j]'hi2).toNat : Int) == 45) = true := by rw [hsa2]; rfl
          have y1 : ((s[j]'hi2).toNat : Int) = 45 := by rw [hsa2]; rfl
          have y5 : (((s[j + 1]'hi3).toNat : Int) == 93) = false := by
            rw [hsa3]
            have : a2.toNat ≠ 93 := fun e => h93 (by rw [← UInt8.toNat_inj]; exact e)
            simp; omega
          have y6 : ¬ ((s[j + 1]'hi3).toNat : Int) = 93 := by simpa using y5
          have y2 : (j : Int) < (s.size : Int) := by omega
          have y3 : (0 : Int) ≤ (j : Int) := by omega
          have y7 : (0 : Int) ≤ (j : Int) + 1 := by omega
          have y4 : IntKind.i64.wrap ((j : Int) + 1) = (j : Int) + 1 := wrap_in _ (by omega) (by omega)
          have t1 : (j : Int) + 1 < (s.size : Int) := by omega
          have t2 : decide ((j : Int) + 1 < (s.size : Int)) = true := decide_eq_true t1
          have b1 : ¬ (p.2 : Int) < (p.1 : Int) := by omega
          have b2 : decide ((p.2 : Int) < (p.1 : Int)) = false := decide_eq_false b1
          have HDJ1 := Lib.hid hdj1
          obtain ⟨j2, hj2⟩ : ∃ j2, j + 1 + (elemB p.2).length = j2 := ⟨_, rfl⟩
          have hjj : j + 1 < j2 ∧ j2 ≤ s.size := by
            rw [← hj2, ha2]
            rw [ha2] at hdj1
            have := congrArg List.length hdj1
            simp at this ⊢
            omega
          have HDN : Hid (s.data.toList.drop j2 = rs.flatMap itT ++ 93 :: rest) := by rw [← hj2]; exact drop_more hdj1
          clear ha2 hsa2 hlen2 hsa3 hlen3 hdj1
          cases fst
          all_goals
            go_wp2_with fail
            refine HIT.out.mono ?_
            rintro e w2 ⟨rfl, hr2, hx2⟩
            have HS2 := Lib.hid (HST.out.mid hr2 hx2)
            have hsz2 := blk_lt HS2.out.var
            have k0 := HS2.out.rd.c0
            obtain ⟨k1, f1⟩ := HS2.out.rd.c1
            have k2 := HS2.out.rd.c2.1
            have K0 := fun ob => bl_cell (bl_alloc w2 ob) k0
            have K1 := fun ob => bl_cell (bl_alloc w2 ob) k1
            have K2 := fun ob => bl_cell (bl_alloc w2 ob) k2
            have F1 : ∀ ob, (w2.alloc ob).frozen? ⟨w.heap.size + 1, 1, none⟩ = false := fun ob => ((HS2.out.to (bl_alloc w2 ob)).rd.c1).2
            have HS3 : Hid (∀ ob, BrS w s (inR qs) (j + 1) ((w2.alloc ob).setCell ⟨w.heap.size + 1, 1, none⟩ (.int .i64 ((j : Int) + 1)))) := fun ob => by
              have h := (HS2.out.to (bl_alloc w2 ob)).move (j + 1)
              push_cast at h
              exact h
            have HX3 : Hid (∀ ob, ((w2.alloc ob).setCell ⟨w.heap.size + 1, 1, none⟩ (.int .i64 ((j : Int) + 1))).heap[w2.heap.size]? = some ob) := fun ob => by
              rw [Below.heap_setCell _ _ _ _ (by show w2.heap.size ≠ w.heap.size + 1; omega)]
              exact heap_alloc_new _ _
            have HIT2 := Lib.hid (fun ob => item_any (w.heap.size + 1) s (j + 1) p.2 (rs.flatMap itT ++ 93 :: rest) _ (HS3.out ob).rd hsz hp.2 HDJ1.out)
            rw [hj2] at HIT2
            have C1 : ∀ ob, ((w2.alloc ob).setCell ⟨w.heap.size + 1, 1, none⟩ (.int .i64 ((j : Int) + 1))).cell? ⟨w.heap.size + 1, 1, none⟩ = some (.int .i64 ((j : Int) + 1)) := fun ob => by
              have := (HS3.out ob).rd.c1.1
              push_cast at this
              exact this
            clear hr2 hx2 c0 c1 HIT
            unfold itC
            go_wp2_with fail
            refine (HIT2.out _).mono ?_
            rintro e w3 ⟨rfl, hr3, hx3⟩
            have HS4 := Lib.hid ((HS3.out _).mid hr3 hx3)
            have h4 := (hx3.block _ (blk_lt (HX3.out _)) (by omega)).trans (HX3.out _)
            have hsz3 := blk_lt h4
            have HX4 := Lib.hid h4
            have m2 := HS4.out.rd.c2.1
            have M2 := fun ob => bl_cell (bl_alloc w3 ob) m2
            have X4 := fun ob => bl_cell (bl_alloc w3 ob) (blk_at h4 4 rfl).1
            clear K0 K1 K2 F1 C1 k0 k1 k2 f1 h4 hr3 hx3 m2
            unfold itC
            go_wp2_with fail
            refine (range_words p.1 p.2 (by omega) hp.2 _).mono ?_
            rintro e w4 ⟨rfl, hb4⟩
            have HS5 := Lib.hid ((HS4.out.to (bl_alloc w3 _)).to hb4)
            have h5 := blk_below (blk_below HX4.out (bl_alloc w3 _) hsz3) hb4 (by simp; omega)
            obtain ⟨d0, e0⟩ := blk_at h5 0 rfl
            obtain ⟨d1, e1⟩ := blk_at h5 1 rfl
            obtain ⟨d2, e2⟩ := blk_at h5 2 rfl
            obtain ⟨d3, e3⟩ := blk_at h5 3 rfl
            have HS6 : Hid (∀ a b c d, BrS w s (inR qs) j2 ((((w4.setCell ⟨w2.heap.size, 0, none⟩ a).setCell ⟨w2.heap.size, 1, none⟩ b).setCell ⟨w2.heap.size, 2, none⟩ c).setCell ⟨w2.heap.size, 3, none⟩ d)) := fun a b c d => (((HS5.out.own hsz2 0 a).own hsz2 1 b).own hsz2 2 c).own hsz2 3 d
            have R2 : ∀ a b c d, ((((w4.setCell ⟨w2.heap.size, 0, none⟩ a).setCell ⟨w2.heap.size, 1, none⟩ b).setCell ⟨w2.heap.size, 2, none⟩ c).setCell ⟨w2.heap.size, 3, none⟩ d).cell? ⟨w.heap.size + 1, 2, none⟩ = some (.int .i64 (-1)) := fun a b c d => (HS6.out a b c d).rd.c2.1
            have V0 : ∀ a b c d, ((((w4.setCell ⟨w2.heap.size, 0, none⟩ a).setCell ⟨w2.heap.size, 1, none⟩ b).setCell ⟨w2.heap.size, 2, none⟩ c).setCell ⟨w2.heap.size, 3, none⟩ d).cell? ⟨w.heap.size + 1 + 1, 0, none⟩ = some (.int .u64 (sW (inR qs) 0 : Nat)) := fun a b c d => (HS6.out a b c d).vars.1.1
            have V1 : ∀ a b c d, ((((w4.setCell ⟨w2.heap.size, 0, none⟩ a).setCell ⟨w2.heap.size, 1, none⟩ b).setCell ⟨w2.heap.size, 2, none⟩ c).setCell ⟨w2.heap.size, 3, none⟩ d).cell? ⟨w.heap.size + 1 + 1, 1, none⟩ = some (.int .u64 (sW (inR qs) 1 : Nat)) := fun a b c d => (HS6.out a b c d).vars.1.2.1
            have V2 : ∀ a b c d, ((((w4.setCell ⟨w2.heap.size, 0, none⟩ a).setCell ⟨w2.heap.size, 1, none⟩ b).setCell ⟨w2.heap.size, 2, none⟩ c).setCell ⟨w2.heap.size, 3, none⟩ d).cell? ⟨w.heap.size + 1 + 1, 2, none⟩ = some (.int .u64 (sW (inR qs) 2 : Nat)) := fun a b c d => (HS6.out a b c d).vars.1.2.2.1
            have V3 : ∀ a b c d, ((((w4.setCell ⟨w2.heap.size, 0, none⟩ a).setCell ⟨w2.heap.size, 1, none⟩ b).setCell ⟨w2.heap.size, 2, none⟩ c).setCell ⟨w2.heap.size, 3, none⟩ d).cell? ⟨w.heap.size + 1 + 1, 3, none⟩ = some (.int .u64 (sW (inR qs) 3 : Nat)) := fun a b c d => (HS6.out a b c d).vars.1.2.2.2
            clear M2 X4 h5 hb4
            go_wp2_with fail
            refine (or_words (inR qs) (rangeF p.1 (p.2 + 1)) _).mono ?_
            rintro e w6 ⟨rfl, hb6⟩
            have HS7 := Lib.hid ((HS6.out _ _ _ _).to hb6)
            obtain ⟨⟨x0, x1, x2, x3⟩, f0, f1, f2, f3⟩ := HS7.out.vars
            clear hb6 R2 V0 V1 V2 V3 d0 d1 d2 d3 e0 e1 e2 e3
            go_wp2_with fail
            rw [four_row HS7.out.var]
            have HSN : Hid (BrS w s (inR (qs ++ [p])) j2 (w6.setRow (w.heap.size + 1 + 1) (setC (fun c => inR qs c || rangeF p.1 (p.2 + 1) c)))) := by
              show BrS _ _ _ _ _
              rw [setC_inR2 qs p]; exact HS7.out.set _
            go_roundw
            case rel => exact ⟨qs ++ [p], rs, j2, false, by rw [HQR.out]; simp, rfl, by simp, HDN.out, HSN.out⟩
            case measure =>
              have e1 := HSN.out.pos s.size
              have e2 := HST.out.pos s.size
              have e3 : (w6.setRow (w.heap.size + 1 + 1) (setC (fun c => inR qs c || rangeF p.1 (p.2 + 1) c))) = (w6.setRow (w.heap.size + 1 + 1) #[.int .u64 (sW (fun c => inR qs c || rangeF p.1 (p.2 + 1) c) 0 : Nat), .int .u64 (sW (fun c => inR qs c || rangeF p.1 (p.2 + 1) c) 1 : Nat), .int .u64 (sW (fun c => inR qs c || rangeF p.1 (p.2 + 1) c) 2 : Nat), .int .u64 (sW (fun c => inR qs c || rangeF p.1 (p.2 + 1) c) 3 : Nat)]) := rfl
              rw [e3] at e1
              rw [e1, e2]; omega
  | true =>
    have hs0 : s.data.toList.drop 1 = ps.flatMap itT ++ 93 :: rest := by rw [hs]; rfl
    have q1 : (((s[0]'hpos).toNat : Int) == 94) = true := by
      obtain ⟨hi, ha, _⟩ := get_head (s := s) (i := 0) (a := 94) (r := ps.flatMap itT ++ 93 :: rest) (by rw [hs]; rfl)
      rw [ha]; rfl
    have q2 : ((s[0]'hpos).toNat : Int) = 94 := by simpa using q1
    have HS0 := Lib.hid hs0
    have HPS := Lib.hid hps
    have HNE := Lib.hid hne
    clear hs hs0 hps hne
    go_enter Tryz.func73, Tryz.ntmps73
    go_wp2_with fail
    go_loopw [9] (fun s9 wr => ∃ (qs rs : List (Nat × Nat)) (i : Nat) (fst : Bool), ps = qs ++ rs ∧ s9 = .bool fst ∧ (fst = true ↔ qs = []) ∧ s.data.toList.drop i = rs.flatMap itT ++ 93 :: rest ∧ BrS w s (inR qs) i wr) (fun _ wr => posOf w s.size wr)
    case atStart =>
      refine ⟨[], ps, 1, true, rfl, rfl, by simp, HS0.out, ⟨?_, ?_, ?_, by go_grown⟩⟩
      · rw [Below.heap_alloc _ _ _ (by simp; omega), Below.heap_alloc _ _ _ (by simp), heap_alloc_new, setC_none]
      · show _ = _
        rw [Below.heap_alloc _ _ _ (by simp)]
        have h := heap_alloc_new (w.alloc (.cells #[.int .u64 0, .int .u64 0, .int .u64 0, .int .u64 0] 24)) (.cells (rdC s 1) 119)
        simpa [rdC] using h
      · have h := heap_alloc_new ((w.alloc (.cells #[.int .u64 0, .int .u64 0, .int .u64 0, .int .u64 0] 24)).alloc (.cells (rdC s 1) 119)) (.cells (setC (inR [])) 24)
        have e : setC (inR []) = setC noneF := setC_congr (fun c _ => rfl)
        rw [e, setC_none] at h ⊢
        simpa [rdC] using h
    case round =>
      obtain ⟨qs, rs, i, fst, hqr, rfl, hfst, hd, hst⟩ := hrel
      have HD := Lib.hid hd
      have HST := Lib.hid hst
      have HQR := Lib.hid hqr
      have HF := Lib.hid hfst
      clear hd hst hqr hfst
      have c0 := HST.out.rd.c0
      have c1 := HST.out.rd.c1.1
      cases rs with
      | nil =>
        have hq : qs = ps := by rw [HQR.out]; simp
        have hff : fst = false := by
          cases fst with
          | false => rfl
          | true => exact absurd (HF.out.1 rfl) (by rw [hq]; exact HNE.out)
        subst hq
        subst hff
        obtain ⟨hi, hsa, hlen⟩ := get_head (s := s) (i := i) (a := 93) (r := rest) HD.out
        have z1 : ¬ (s.size : Int) ≤ (i : Int) := by omega
        have z2 : decide ((s.size : Int) ≤ (i : Int)) = false := decide_eq_false z1
        have z3 : (i : Int) < (s.size : Int) := by omega
        have z4 : (0 : Int) ≤ (i : Int) := by omega
        have z5 : (((s[i]'hi).toNat : Int) == 93) = true := by rw [hsa]; rfl
        have z6 : ((s[i]'hi).toNat : Int) = 93 := by rw [hsa]; rfl
        have c2 := HST.out.rd.c2.1
        have hend : s.size - rest.length = i + 1 := by omega
        have y4 : IntKind.i64.wrap ((i : Int) + 1) = (i : Int) + 1 := wrap_in _ (by omega) (by omega)
        obtain ⟨⟨v0, v1, v2, v3⟩, -⟩ := HST.out.vars
        obtain ⟨d0, e0⟩ := blk_at HST.out.res 0 rfl
        obtain ⟨d1, e1⟩ := blk_at HST.out.res 1 rfl
        obtain ⟨d2, e2⟩ := blk_at HST.out.res 2 rfl
        obtain ⟨d3, e3⟩ := blk_at HST.out.res 3 rfl
        have HEND := Lib.hid hend
        clear hsa hlen hend
        go_wp2_with fail
        refine (not_words (inR qs) _).mono ?_
        rintro e w6 ⟨rfl, hb6⟩
        have HS6 := Lib.hid (HST.out.to hb6)
        obtain ⟨⟨p0, p1, p2, p3⟩, f0, f1, f2, f3⟩ := HS6.out.vars
        clear v0 v1 v2 v3 d0 d1 d2 d3 e0 e1 e2 e3 hb6 c0 c1 c2
        go_wp2_with fail
        rw [four_row HS6.out.var]
        obtain ⟨W7, hW7⟩ : ∃ W, w6.setRow (w.heap.size + 1 + 1) #[.int .u64 (sW (fun c => !inR qs c) 0 : Nat), .int .u64 (sW (fun c => !inR qs c) 1 : Nat), .int .u64 (sW (fun c => !inR qs c) 2 : Nat), .int .u64 (sW (fun c => !inR qs c) 3 : Nat)] = W := ⟨_, rfl⟩
        have HS7 : Hid (BrS w s (fun c => !inR qs c) i W7) := by rw [← hW7]; exact HS6.out.set _
        rw [hW7]
        clear p0 p1 p2 p3 f0 f1 f2 f3 hW7
        obtain ⟨⟨v0, v1, v2, v3⟩, -⟩ := HS7.out.vars
        have c0 := HS7.out.rd.c0
        have c1 := HS7.out.rd.c1.1
        obtain ⟨d0, e0⟩ := blk_at HS7.out.res 0 rfl
        obtain ⟨d1, e1⟩ := blk_at HS7.out.res 1 rfl
        obtain ⟨d2, e2⟩ := blk_at HS7.out.res 2 rfl
        obtain ⟨d3, e3⟩ := blk_at HS7.out.res 3 rfl
        go_region
        go_wp2_with fail
        rw [four_row HS7.out.res]
        obtain ⟨W', hW'⟩ : ∃ W, (W7.setRow w.heap.size #[.int .u64 (sW (fun c => !inR qs c) 0 : Nat), .int .u64 (sW (fun c => !inR qs c) 1 : Nat), .int .u64 (sW (fun c => !inR qs c) 2 : Nat), .int .u64 (sW (fun c => !inR qs c) 3 : Nat)]).drew = W := ⟨_, rfl⟩
        have hbW : W'.heap[w.heap.size]? = some (.cells (setC (fun c => !inR qs c)) 24 (0, 0)) := by rw [← hW']; exact setRow_heap _ _ _ _ _ _ HS7.out.res
        have hlW : Below w.heap.size w W' := by rw [← hW']; exact (below_setRow HS7.out.below (Nat.le_refl _) _).drew
        rw [hW']
        have t0 := (blk_at hbW 0 rfl).1
        have t1 := (blk_at hbW 1 rfl).1
        have t2 := (blk_at hbW 2 rfl).1
        have t3 := (blk_at hbW 3 rfl).1
        refine bodyPost_ret (v := .tuple #[.agg #[.int .u64 (sW (fun c => !inR qs c) 0 : Nat), .int .u64 (sW (fun c => !inR qs c) 1 : Nat), .int .u64 (sW (fun c => !inR qs c) 2 : Nat), .int .u64 (sW (fun c => !inR qs c) 3 : Nat)], .int .i64 ((i : Int) + 1), .int .i64 0, .int .i64 0]) (by simp [results, Tryz.results73, go_sem, t0, t1, t2, t3]; exact ⟨rfl, rfl, rfl, rfl⟩) rfl ?_
        refine ⟨?_, hlW⟩
        rw [HEND.out]
        rfl
      | cons p rs =>
        have hp : p.1 ≤ p.2 ∧ p.2 < 256 := HPS.out p (by rw [HQR.out]; simp)
        have hrs : ∀ x ∈ rs, x.1 ≤ x.2 ∧ x.2 < 256 := fun x hx => HPS.out x (by rw [HQR.out]; simp [hx])
        obtain ⟨a, r, ha, ha93, -, -⟩ := elem_head p.1 (by omega)
        have hdh : s.data.toList.drop i = (itT p) ++ (rs.flatMap itT ++ 93 :: rest) := by rw [HD.out]; simp
        have hi0 : ∃ t, s.data.toList.drop i = elemB p.1 ++ t := by
          rw [hdh]
          by_cases e : p.1 = p.2
          · exact ⟨_, by rw [show itT p = elemB p.1 by unfold itT; rw [if_pos e]]⟩
          · exact ⟨45 :: elemB p.2 ++ (rs.flatMap itT ++ 93 :: rest), by rw [show itT p = elemB p.1 ++ 45 :: elemB p.2 by unfold itT; rw [if_neg e]]; simp⟩
        obtain ⟨t, ht⟩ := hi0
        obtain ⟨hi, hsa, hlen⟩ := get_head (a := a) (r := r ++ t) (by rw [ht, ha]; rfl)
        have z1 : ¬ (s.size : Int) ≤ (i : Int) := by omega
        have z2 : decide ((s.size : Int) ≤ (i : Int)) = false := decide_eq_false z1
        have z3 : (i : Int) < (s.size : Int) := by omega
        have z4 : (0 : Int) ≤ (i : Int) := by omega
        have z5 : (((s[i]'hi).toNat : Int) == 93) = false := by
          rw [hsa]
          have : a.toNat ≠ 93 := fun e => ha93 (by rw [← UInt8.toNat_inj]; exact e)
          simp; omega
        have z6 : ¬ ((s[i]'hi).toNat : Int) = 93 := by simpa using z5
        have HIT := Lib.hid (item_any (w.heap.size + 1) s i p.1 t wr HST.out.rd hsz (by omega) ht)
        obtain ⟨j, hj⟩ : ∃ j, i + (elemB p.1).length = j := ⟨_, rfl⟩
        have hij : i < j := by
          rw [← hj, ha]; simp
        rw [hj] at HIT
        have HDJ : Hid (s.data.toList.drop j = t) := by rw [← hj]; exact drop_more ht
        have HDH := Lib.hid hdh
        have HT := Lib.hid ht
        clear hdh ht hlen hsa ha
        by_cases hone : p.1 = p.2
        · have hti : t = rs.flatMap itT ++ 93 :: rest := by
            have h1 := HDH.out
            rw [HT.out, show itT p = elemB p.1 by unfold itT; rw [if_pos hone]] at h1
            exact List.append_cancel_left h1
          obtain ⟨a2, r2, ha2, h45, -, -⟩ := items_head rs hrs rest
          obtain ⟨hi2, hsa2, hlen2⟩ := get_head (s := s) (i := j) (a := a2) (r := r2) (by rw [HDJ.out, hti, ha2])
          have y0 : (((s[j]'hi2).toNat : Int) == 45) = false := by
            rw [hsa2]
            have : a2.toNat ≠ 45 := fun e => h45 (by rw [← UInt8.toNat_inj]; exact e)
            simp; omega
          have y1 : ¬ ((s[j]'hi2).toNat : Int) = 45 := by simpa using y0
          have y2 : (j : Int) < (s.size : Int) := by omega
          have y3 : (0 : Int) ≤ (j : Int) := by omega
          have y4 : IntKind.i64.wrap ((j : Int) + 1) = (j : Int) + 1 := wrap_in _ (by omega) (by omega)
          clear ha2 hsa2 hlen2
          have HONE := Lib.hid hone
          clear hone
          cases fst
          all_goals
            go_wp2_with fail
            refine HIT.out.mono ?_
            rintro e w2 ⟨rfl, hr2, hx2⟩
            have HS2 := Lib.hid (HST.out.mid hr2 hx2)
            have hsz2 := blk_lt HS2.out.var
            obtain ⟨⟨v0, v1, v2, v3⟩, u0, u1, u2, u3⟩ := HS2.out.vars
            have k0 := HS2.out.rd.c0
            have k1 := HS2.out.rd.c1.1
            have k2 := HS2.out.rd.c2.1
            have K1 := fun ob => bl_cell (bl_alloc w2 ob) k1
            have K2 := fun ob => bl_cell (bl_alloc w2 ob) k2
            have V0 := fun ob => bl_cell (bl_alloc w2 ob) v0
            have V1 := fun ob => bl_cell (bl_alloc w2 ob) v1
            have V2 := fun ob => bl_cell (bl_alloc w2 ob) v2
            have V3 := fun ob => bl_cell (bl_alloc w2 ob) v3
            clear hr2 hx2 c0 c1 HIT u0 u1 u2 u3 k0 k1 k2 v0 v1 v2 v3
            unfold itC
            by_cases hj1 : j + 1 < s.size
            · have t1 : (j : Int) + 1 < (s.size : Int) := by omega
              have t2 : decide ((j : Int) + 1 < (s.size : Int)) = true := decide_eq_true t1
              go_wp2_with fail
              refine (or_words (inR qs) (oneF p.1) _).mono ?_
              rintro e w6 ⟨rfl, hb6⟩
              have HS6 := Lib.hid ((HS2.out.to (bl_alloc w2 _)).to hb6)
              obtain ⟨⟨x0, x1, x2, x3⟩, f0, f1, f2, f3⟩ := HS6.out.vars
              clear hb6 K1 K2 V0 V1 V2 V3
              go_wp2_with fail
              rw [four_row HS6.out.var]
              have HSN : Hid (BrS w s (inR (qs ++ [p])) j (w6.setRow (w.heap.size + 1 + 1) (setC (fun c => inR qs c || oneF p.1 c)))) := by
                show BrS _ _ _ _ _
                rw [setC_inR qs p HONE.out]; exact HS6.out.set _
              go_roundw
              case rel => exact ⟨qs ++ [p], rs, j, false, by rw [HQR.out]; simp, rfl, by simp, by rw [HDJ.out, hti], HSN.out⟩
              case measure =>
                have e1 := HSN.out.pos s.size
                have e2 := HST.out.pos s.size
                have e3 : (w6.setRow (w.heap.size + 1 + 1) (setC (fun c => inR qs c || oneF p.1 c))) = (w6.setRow (w.heap.size + 1 + 1) #[.int .u64 (sW (fun c => inR qs c || oneF p.1 c) 0 : Nat), .int .u64 (sW (fun c => inR qs c || oneF p.1 c) 1 : Nat), .int .u64 (sW (fun c => inR qs c || oneF p.1 c) 2 : Nat), .int .u64 (sW (fun c => inR qs c || oneF p.1 c) 3 : Nat)]) := rfl
                rw [e3] at e1
                rw [e1, e2]; omega
            · have t1 : ¬ (j : Int) + 1 < (s.size : Int) := by omega
              have t2 : decide ((j : Int) + 1 < (s.size : Int)) = false := decide_eq_false t1
              go_wp2_with fail
              refine (or_words (inR qs) (oneF p.1) _).mono ?_
              rintro e w6 ⟨rfl, hb6⟩
              have HS6 := Lib.hid ((HS2.out.to (bl_alloc w2 _)).to hb6)
              obtain ⟨⟨x0, x1, x2, x3⟩, f0, f1, f2, f3⟩ := HS6.out.vars
              clear hb6 K1 K2 V0 V1 V2 V3
              go_wp2_with fail
              rw [four_row HS6.out.var]
              have HSN : Hid (BrS w s (inR (qs ++ [p])) j (w6.setRow (w.heap.size + 1 + 1) (setC (fun c => inR qs c || oneF p.1 c)))) := by
                show BrS _ _ _ _ _
                rw [setC_inR qs p HONE.out]; exact HS6.out.set _
              go_roundw
              case rel => exact ⟨qs ++ [p], rs, j, false, by rw [HQR.out]; simp, rfl, by simp, by rw [HDJ.out, hti], HSN.out⟩
              case measure =>
                have e1 := HSN.out.pos s.size
                have e2 := HST.out.pos s.size
                have e3 : (w6.setRow (w.heap.size + 1 + 1) (setC (fun c => inR qs c || oneF p.1 c))) = (w6.setRow (w.heap.size + 1 + 1) #[.int .u64 (sW (fun c => inR qs c || oneF p.1 c) 0 : Nat), .int .u64 (sW (fun c => inR qs c || oneF p.1 c) 1 : Nat), .int .u64 (sW (fun c => inR qs c || oneF p.1 c) 2 : Nat), .int .u64 (sW (fun c => inR qs c || oneF p.1 c) 3 : Nat)]) := rfl
                rw [e3] at e1
                rw [e1, e2]; omega
        · have hti : t = 45 :: elemB p.2 ++ (rs.flatMap itT ++ 93 :: rest) := by
            have h1 := HDH.out
            rw [HT.out, show itT p = elemB p.1 ++ 45 :: elemB p.2 by unfold itT; rw [if_neg hone], List.append_assoc] at h1
            exact List.append_cancel_left h1
          obtain ⟨a2, r2, ha2, h93, -, -⟩ := elem_head p.2 (by omega)
          have hdj1 : s.data.toList.drop (j + 1) = elemB p.2 ++ (rs.flatMap itT ++ 93 :: rest) := by
            have h1 : s.data.toList.drop j = [45] ++ (elemB p.2 ++ (rs.flatMap itT ++ 93 :: rest)) := by rw [HDJ.out, hti]; simp
            exact drop_more h1
          obtain ⟨hi2, hsa2, hlen2⟩ := get_head (s := s) (i := j) (a := 45) (r := elemB p.2 ++ (rs.flatMap itT ++ 93 :: rest)) (by rw [HDJ.out, hti]; simp)
          obtain ⟨hi3, hsa3, hlen3⟩ := get_head (s := s) (i := j + 1) (a := a2) (r := r2 ++ (rs.flatMap itT ++ 93 :: rest)) (by rw [hdj1, ha2]; simp)
          have y0 : (((s[j]'hi2).toNat : Int) == 45) = true := by rw [hsa2]; rfl
          have y1 : ((s[j]'hi2).toNat : Int) = 45 := by rw [hsa2]; rfl
          have y5 : (((s[j + 1]'hi3).toNat : Int) == 93) = false := by
            rw [hsa3]
            have : a2.toNat ≠ 93 := fun e => h93 (by rw [← UInt8.toNat_inj]; exact e)
            simp; omega
          have y6 : ¬ ((s[j + 1]'hi3).toNat : Int) = 93 := by simpa using y5
          have y2 : (j : Int) < (s.size : Int) := by omega
          have y3 : (0 : Int) ≤ (j : Int) := by omega
          have y7 : (0 : Int) ≤ (j : Int) + 1 := by omega
          have y4 : IntKind.i64.wrap ((j : Int) + 1) = (j : Int) + 1 := wrap_in _ (by omega) (by omega)
          have t1 : (j : Int) + 1 < (s.size : Int) := by omega
          have t2 : decide ((j : Int) + 1 < (s.size : Int)) = true := decide_eq_true t1
          have b1 : ¬ (p.2 : Int) < (p.1 : Int) := by omega
          have b2 : decide ((p.2 : Int) < (p.1 : Int)) = false := decide_eq_false b1
          have HDJ1 := Lib.hid hdj1
          obtain ⟨j2, hj2⟩ : ∃ j2, j + 1 + (elemB p.2).length = j2 := ⟨_, rfl⟩
          have hjj : j + 1 < j2 ∧ j2 ≤ s.size := by
            rw [← hj2, ha2]
            rw [ha2] at hdj1
            have := congrArg List.length hdj1
            simp at this ⊢
            omega
          have HDN : Hid (s.data.toList.drop j2 = rs.flatMap itT ++ 93 :: rest) := by rw [← hj2]; exact drop_more hdj1
          clear ha2 hsa2 hlen2 hsa3 hlen3 hdj1
          cases fst
          all_goals
            go_wp2_with fail
            refine HIT.out.mono ?_
            rintro e w2 ⟨rfl, hr2, hx2⟩
            have HS2 := Lib.hid (HST.out.mid hr2 hx2)
            have hsz2 := blk_lt HS2.out.var
            have k0 := HS2.out.rd.c0
            obtain ⟨k1, f1⟩ := HS2.out.rd.c1
            have k2 := HS2.out.rd.c2.1
            have K0 := fun ob => bl_cell (bl_alloc w2 ob) k0
            have K1 := fun ob => bl_cell (bl_alloc w2 ob) k1
            have K2 := fun ob => bl_cell (bl_alloc w2 ob) k2
            have F1 : ∀ ob, (w2.alloc ob).frozen? ⟨w.heap.size + 1, 1, none⟩ = false := fun ob => ((HS2.out.to (bl_alloc w2 ob)).rd.c1).2
            have HS3 : Hid (∀ ob, BrS w s (inR qs) (j + 1) ((w2.alloc ob).setCell ⟨w.heap.size + 1, 1, none⟩ (.int .i64 ((j : Int) + 1)))) := fun ob => by
              have h := (HS2.out.to (bl_alloc w2 ob)).move (j + 1)
              push_cast at h
              exact h
            have HX3 : Hid (∀ ob, ((w2.alloc ob).setCell ⟨w.heap.size + 1, 1, none⟩ (.int .i64 ((j : Int) + 1))).heap[w2.heap.size]? = some ob) := fun ob => by
              rw [Below.heap_setCell _ _ _ _ (by show w2.heap.size ≠ w.heap.size + 1; omega)]
              exact heap_alloc_new _ _
            have HIT2 := Lib.hid (fun ob => item_any (w.heap.size + 1) s (j + 1) p.2 (rs.flatMap itT ++ 93 :: rest) _ (HS3.out ob).rd hsz hp.2 HDJ1.out)
            rw [hj2] at HIT2
            have C1 : ∀ ob, ((w2.alloc ob).setCell ⟨w.heap.size + 1, 1, none⟩ (.int .i64 ((j : Int) + 1))).cell? ⟨w.heap.size + 1, 1, none⟩ = some (.int .i64 ((j : Int) + 1)) := fun ob => by
              have := (HS3.out ob).rd.c1.1
              push_cast at this
              exact this
            clear hr2 hx2 c0 c1 HIT
            unfold itC
            go_wp2_with fail
            refine (HIT2.out _).mono ?_
            rintro e w3 ⟨rfl, hr3, hx3⟩
            have HS4 := Lib.hid ((HS3.out _).mid hr3 hx3)
            have h4 := (hx3.block _ (blk_lt (HX3.out _)) (by omega)).trans (HX3.out _)
            have hsz3 := blk_lt h4
            have HX4 := Lib.hid h4
            have m2 := HS4.out.rd.c2.1
            have M2 := fun ob => bl_cell (bl_alloc w3 ob) m2
            have X4 := fun ob => bl_cell (bl_alloc w3 ob) (blk_at h4 4 rfl).1
            clear K0 K1 K2 F1 C1 k0 k1 k2 f1 h4 hr3 hx3 m2
            unfold itC
            go_wp2_with fail
            refine (range_words p.1 p.2 (by omega) hp.2 _).mono ?_
            rintro e w4 ⟨rfl, hb4⟩
            have HS5 := Lib.hid ((HS4.out.to (bl_alloc w3 _)).to hb4)
            have h5 := blk_below (blk_below HX4.out (bl_alloc w3 _) hsz3) hb4 (by simp; omega)
            obtain ⟨d0, e0⟩ := blk_at h5 0 rfl
            obtain ⟨d1, e1⟩ := blk_at h5 1 rfl
            obtain ⟨d2, e2⟩ := blk_at h5 2 rfl
            obtain ⟨d3, e3⟩ := blk_at h5 3 rfl
            have HS6 : Hid (∀ a b c d, BrS w s (inR qs) j2 ((((w4.setCell ⟨w2.heap.size, 0, none⟩ a).setCell ⟨w2.heap.size, 1, none⟩ b).setCell ⟨w2.heap.size, 2, none⟩ c).setCell ⟨w2.heap.size, 3, none⟩ d)) := fun a b c d => (((HS5.out.own hsz2 0 a).own hsz2 1 b).own hsz2 2 c).own hsz2 3 d
            have R2 : ∀ a b c d, ((((w4.setCell ⟨w2.heap.size, 0, none⟩ a).setCell ⟨w2.heap.size, 1, none⟩ b).setCell ⟨w2.heap.size, 2, none⟩ c).setCell ⟨w2.heap.size, 3, none⟩ d).cell? ⟨w.heap.size + 1, 2, none⟩ = some (.int .i64 (-1)) := fun a b c d => (HS6.out a b c d).rd.c2.1
            have V0 : ∀ a b c d, ((((w4.setCell ⟨w2.heap.size, 0, none⟩ a).setCell ⟨w2.heap.size, 1, none⟩ b).setCell ⟨w2.heap.size, 2, none⟩ c).setCell ⟨w2.heap.size, 3, none⟩ d).cell? ⟨w.heap.size + 1 + 1, 0, none⟩ = some (.int .u64 (sW (inR qs) 0 : Nat)) := fun a b c d => (HS6.out a b c d).vars.1.1
            have V1 : ∀ a b c d, ((((w4.setCell ⟨w2.heap.size, 0, none⟩ a).setCell ⟨w2.heap.size, 1, none⟩ b).setCell ⟨w2.heap.size, 2, none⟩ c).setCell ⟨w2.heap.size, 3, none⟩ d).cell? ⟨w.heap.size + 1 + 1, 1, none⟩ = some (.int .u64 (sW (inR qs) 1 : Nat)) := fun a b c d => (HS6.out a b c d).vars.1.2.1
            have V2 : ∀ a b c d, ((((w4.setCell ⟨w2.heap.size, 0, none⟩ a).setCell ⟨w2.heap.size, 1, none⟩ b).setCell ⟨w2.heap.size, 2, none⟩ c).setCell ⟨w2.heap.size, 3, none⟩ d).cell? ⟨w.heap.size + 1 + 1, 2, none⟩ = some (.int .u64 (sW (inR qs) 2 : Nat)) := fun a b c d => (HS6.out a b c d).vars.1.2.2.1
            have V3 : ∀ a b c d, ((((w4.setCell ⟨w2.heap.size, 0, none⟩ a).setCell ⟨w2.heap.size, 1, none⟩ b).setCell ⟨w2.heap.size, 2, none⟩ c).setCell ⟨w2.heap.size, 3, none⟩ d).cell? ⟨w.heap.size + 1 + 1, 3, none⟩ = some (.int .u64 (sW (inR qs) 3 : Nat)) := fun a b c d => (HS6.out a b c d).vars.1.2.2.2
            clear M2 X4 h5 hb4
            go_wp2_with fail
            refine (or_words (inR qs) (rangeF p.1 (p.2 + 1)) _).mono ?_
            rintro e w6 ⟨rfl, hb6⟩
            have HS7 := Lib.hid ((HS6.out _ _ _ _).to hb6)
            obtain ⟨⟨x0, x1, x2, x3⟩, f0, f1, f2, f3⟩ := HS7.out.vars
            clear hb6 R2 V0 V1 V2 V3 d0 d1 d2 d3 e0 e1 e2 e3
            go_wp2_with fail
            rw [four_row HS7.out.var]
            have HSN : Hid (BrS w s (inR (qs ++ [p])) j2 (w6.setRow (w.heap.size + 1 + 1) (setC (fun c => inR qs c || rangeF p.1 (p.2 + 1) c)))) := by
              show BrS _ _ _ _ _
              rw [setC_inR2 qs p]; exact HS7.out.set _
            go_roundw
            case rel => exact ⟨qs ++ [p], rs, j2, false, by rw [HQR.out]; simp, rfl, by simp, HDN.out, HSN.out⟩
            case measure =>
              have e1 := HSN.out.pos s.size
              have e2 := HST.out.pos s.size
              have e3 : (w6.setRow (w.heap.size + 1 + 1) (setC (fun c => inR qs c || rangeF p.1 (p.2 + 1) c))) = (w6.setRow (w.heap.size + 1 + 1) #[.int .u64 (sW (fun c => inR qs c || rangeF p.1 (p.2 + 1) c) 0 : Nat), .int .u64 (sW (fun c => inR qs c || rangeF p.1 (p.2 + 1) c) 1 : Nat), .int .u64 (sW (fun c => inR qs c || rangeF p.1 (p.2 + 1) c) 2 : Nat), .int .u64 (sW (fun c => inR qs c || rangeF p.1 (p.2 + 1) c) 3 : Nat)]) := rfl
              rw [e3] at e1
              rw [e1, e2]; omega
end Go.Proofs.YtlhppbendpnkeaaGreatDoor
