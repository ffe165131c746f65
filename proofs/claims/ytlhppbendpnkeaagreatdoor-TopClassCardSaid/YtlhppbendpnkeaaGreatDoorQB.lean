/- The walk of TopClass. -/
import Derived.Test.YtlhppbendpnkeaaGreatDoorQA
namespace Go.Proofs.YtlhppbendpnkeaaGreatDoor
set_option linter.unusedSimpArgs false
set_option linter.unusedVariables false
open Go.RowKit

theorem one_node (W : World) {cs : Array Value} (hc : Nd cs) : ∃ W2, Below W.heap.size W W2 ∧ W2.heap[W.heap.size]? = some (.cells cs 30 (0, 0)) ∧
    (storeCells ⟨W.heap.size, 0, none⟩ cs.toList).run Tryz.prog (W.alloc (.cells #[.int .u8 0, .int .u64 0, .int .u64 0, .int .u64 0, .int .u64 0, .int .i64 0, .int .i64 0, .int .i64 0, .slice none 0 0] 30)) = .ok () W2 := by
  have h0 := heap_alloc_new W (.cells #[.int .u8 0, .int .u64 0, .int .u64 0, .int .u64 0, .int .u64 0, .int .i64 0, .int .i64 0, .int .i64 0, .slice none 0 0] 30)
  exact ⟨_, below_setRow (bl_alloc _ _) (Nat.le_refl _) _, setRow_heap _ _ _ _ _ _ h0, run_node h0 rfl hc⟩
/-- The cells of a set's words in a node. -/
theorem node_words {w : World} {b k : Nat} {f : Nat → Bool} {mn mx : Int} {g : Nat} {v : Value} (h : w.heap[b]? = some (.cells (ndC k f mn mx g v) 30 (0, 0))) :
    w.cell? ⟨b, 0, none⟩ = some (.int .u8 (k : Int)) ∧ w.cell? ⟨b, 1, none⟩ = some (.int .u64 (sW f 0 : Nat)) ∧ w.cell? ⟨b, 2, none⟩ = some (.int .u64 (sW f 1 : Nat)) ∧ w.cell? ⟨b, 3, none⟩ = some (.int .u64 (sW f 2 : Nat)) ∧ w.cell? ⟨b, 4, none⟩ = some (.int .u64 (sW f 3 : Nat)) ∧ w.cell? ⟨b, 8, none⟩ = some v := by
  unfold ndC at h
  exact ⟨(blk_at h 0 rfl).1, (blk_at h 1 rfl).1, (blk_at h 2 rfl).1, (blk_at h 3 rfl).1, (blk_at h 4 rfl).1, (blk_at h 8 rfl).1⟩

set_option maxRecDepth 100000 in
set_option maxHeartbeats 12800000 in
theorem top_class (f : Nat → Bool) (x : Bool) (w : World) (hsh : Sh w) :
    Calls Tryz.prog 3 #[.agg (setC f), .bool x] w fun e w' => e = .returned (.bool true) ∧ Below w.heap.size w w' := by
  have hz := fun W => eq_words (sW f 0 : Nat) (sW f 1 : Nat) (sW f 2 : Nat) (sW f 3 : Nat) W
  obtain ⟨W1, hW1⟩ : ∃ W, w.alloc (.cells (setC f) 24) = W := ⟨_, rfl⟩
  have HB1 : Hid (Below w.heap.size w W1) := by show Below _ _ _; rw [← hW1]; exact bl_alloc _ _
  have HN1 : Hid (W1.heap[w.heap.size]? = some (.cells (setC f) 24 (0, 0))) := by show _ = _; rw [← hW1]; exact heap_alloc_new _ _
  have HBE := Lib.hid (begins_any W1 (hsh.to HB1.out))
  have HPR : Hid (∀ W, Calls Tryz.prog 5 #[.agg #[.int .u64 (sW f 0 : Nat), .int .u64 (sW f 1 : Nat), .int .u64 (sW f 2 : Nat), .int .u64 (sW f 3 : Nat)]] W fun e w' => e = .returned (.string ⟨(printS f).toArray⟩) ∧ Below W.heap.size W w') := fun W => Print_any f W
  have HSL := printS_le f
  obtain ⟨ps, hps⟩ : ∃ ps : ByteArray, ⟨(printS f).toArray⟩ = ps := ⟨_, rfl⟩
  have hpl : ps.data.toList = printS f := by rw [← hps]
  have hpz : ps.size = (printS f).length := by rw [← hps]; simp [ByteArray.size]
  have hpb : ps.size ≤ 2820 := by omega
  obtain ⟨T, hT⟩ : ∃ T, ({ data := #[91] } : ByteArray) ++ ps = T := ⟨_, rfl⟩
  have hTl : T.data.toList = 91 :: printS f := by rw [← hT, ByteArray.data_append, Array.toList_append, hpl]; rfl
  have hTb : T.size ≤ 2821 := by rw [← hT, ByteArray.size_append]; have : ({ data := #[91] } : ByteArray).size = 1 := rfl; omega
  have HP1 : Hid (∀ W, Calls Tryz.prog 6 #[.string T, .bool x] W fun e w' => ParseP 2 f 0 0 none W.heap.size e w' ∧ Below W.heap.size W w') := fun W => parse_bracket T x f W hTl
  have HP2 : Hid (∀ W, Calls Tryz.prog 6 #[.string (T ++ { data := #[42] }), .bool x] W fun e w' => ParseP 5 noneF (-1) 0 (some f) W.heap.size e w' ∧ Below W.heap.size W w') := fun W => parse_bracket_star _ x f W (by rw [ByteArray.data_append, Array.toList_append, hTl])
  have HP3 : Hid (∀ W, Calls Tryz.prog 6 #[.string ((if x then { data := #[40] } else { data := #[92, 40] }) ++ T ++ (if x then { data := #[41] } else { data := #[92, 41] })), .bool x] W fun e w' => ParseP 6 noneF 0 1 (some f) W.heap.size e w' ∧ Below W.heap.size W w') := fun W => parse_group _ x f W (by
    rw [ByteArray.data_append, ByteArray.data_append, Array.toList_append, Array.toList_append, hTl]
    cases x <;> simp)
  have HP4 : Hid (∀ rs : ByteArray, rs = ⟨(setT x f ++ [42]).toArray⟩ → ∀ W, Calls Tryz.prog 6 #[.string rs, .bool x] W fun e w' => ParseP 5 noneF (-1) 0 (some f) W.heap.size e w' ∧ Below W.heap.size W w') := fun rs hrs W => parse_back rs x f W (by rw [hrs])
  rw [hps] at HPR
  have HT := Lib.hid hT
  have HW1 := Lib.hid hW1
  have HSH := Lib.hid hsh
  clear hW1 hsh hps hT hTl hpl hpz HSL
  unfold setC at HW1 ⊢
  go_enter Tryz.func3, Tryz.ntmps3
  go_wp2_with fail
  rw [HW1.out]
  refine HBE.out.mono ?_
  rintro e w2 ⟨rfl, hb2⟩
  have HB2 := Lib.hid (HB1.out.trans (hb2.mono HB1.out.size))
  have HN2 := Lib.hid (blk_below HN1.out hb2 (blk_lt HN1.out))
  have hn2 := HN2.out
  unfold setC at hn2
  have u0 := (blk_at hn2 0 rfl).1
  have u1 := (blk_at hn2 1 rfl).1
  have u2 := (blk_at hn2 2 rfl).1
  have u3 := (blk_at hn2 3 rfl).1
  simp only [List.getElem_toArray, List.getElem_cons_zero, List.getElem_cons_succ] at u0 u1 u2 u3
  clear hb2 hn2
  go_wp2_with fail
  refine (HPR.out w2).mono ?_
  rintro e w3 ⟨rfl, hb3⟩
  have HB3 := Lib.hid (HB2.out.trans (hb3.mono HB2.out.size))
  have HN3 := Lib.hid (blk_below HN2.out hb3 (blk_lt HN2.out))
  clear hb3 u0 u1 u2 u3
  go_wp2_with fail
  rw [HT.out]
  refine (HP1.out w3).mono ?_
  rintro e w4 ⟨⟨v4, rfl, hk4⟩, hb4⟩
  obtain rfl : v4 = .slice none 0 0 := hk4
  have HB4 := Lib.hid (HB3.out.trans (hb4.mono HB3.out.size))
  have HN4 := Lib.hid (blk_below HN3.out hb4 (blk_lt HN3.out))
  obtain ⟨W5, hb5, h5, e5⟩ := one_node w4 (nd_ndC 2 f 0 0 0 (v := .slice none 0 0) rfl)
  have HB5 := Lib.hid (HB4.out.trans (hb5.mono HB4.out.size))
  have HN5 := Lib.hid (blk_below HN4.out hb5 (blk_lt HN4.out))
  have HX5 := Lib.hid h5
  have z5 : (ndC 2 f 0 0 0 (.slice none 0 0)).size = 9 := rfl
  clear hb4 hb5 h5
  go_wp2_with fail
  refine (HP2.out W5).mono ?_
  rintro e w6 ⟨⟨v6, rfl, hk6⟩, hb6⟩
  obtain ⟨D, rfl, hD, hdb⟩ := hk6
  have HB6 := Lib.hid (HB5.out.trans (hb6.mono HB5.out.size))
  have HN6 := Lib.hid (blk_below HN5.out hb6 (blk_lt HN5.out))
  have HX6 := Lib.hid (blk_below HX5.out hb6 (blk_lt HX5.out))
  obtain ⟨W7, hb7, h7, e7⟩ := one_node w6 (nd_ndC 5 noneF 0 (-1) 0 (v := .slice (some ⟨D, 0, none⟩) 1 1) rfl)
  have HB7 := Lib.hid (HB6.out.trans (hb7.mono HB6.out.size))
  have HN7 := Lib.hid (blk_below HN6.out hb7 (blk_lt HN6.out))
  have HX7 := Lib.hid (blk_below HX6.out hb7 (blk_lt HX6.out))
  have HR7 := Lib.hid h7
  have HD7 := Lib.hid (blk_below hdb hb7 (blk_lt hdb))
  have z7 : (ndC 5 noneF 0 (-1) 0 (.slice (some ⟨D, 0, none⟩) 1 1)).size = 9 := rfl
  clear hb6 hb7 h7 hdb hD e5
  go_wp2_with fail
  clear e7
  have A0 : ∀ kb : Bel W7, (kb.val.cell? ⟨w.heap.size, 0, none⟩ = some (.int .u64 (sW f 0 : Nat)) ∧ kb.val.cell? ⟨w.heap.size, 1, none⟩ = some (.int .u64 (sW f 1 : Nat)) ∧ kb.val.cell? ⟨w.heap.size, 2, none⟩ = some (.int .u64 (sW f 2 : Nat)) ∧ kb.val.cell? ⟨w.heap.size, 3, none⟩ = some (.int .u64 (sW f 3 : Nat))) := fun kb => by
    have h := blk_below HN7.out kb.below (blk_lt HN7.out)
    unfold setC at h
    exact ⟨(blk_at h 0 rfl).1, (blk_at h 1 rfl).1, (blk_at h 2 rfl).1, (blk_at h 3 rfl).1⟩
  have A1 := fun kb : Bel W7 => node_words (blk_below HX7.out kb.below (blk_lt HX7.out))
  have A2 := fun kb : Bel W7 => node_words (blk_below HR7.out kb.below (blk_lt HR7.out))
  have A3 := fun kb : Bel W7 => node_words (blk_below HD7.out kb.below (blk_lt HD7.out))
  have a0 := fun kb : Bel W7 => (A0 kb).1
  have a1 := fun kb : Bel W7 => (A0 kb).2.1
  have a2 := fun kb : Bel W7 => (A0 kb).2.2.1
  have a3 := fun kb : Bel W7 => (A0 kb).2.2.2
  have b0 : ∀ kb : Bel W7, kb.val.cell? ⟨w4.heap.size, 0, none⟩ = some (.int .u8 2) := fun kb => (A1 kb).1
  have b1 := fun kb : Bel W7 => (A1 kb).2.1
  have b2 := fun kb : Bel W7 => (A1 kb).2.2.1
  have b3 := fun kb : Bel W7 => (A1 kb).2.2.2.1
  have b4 := fun kb : Bel W7 => (A1 kb).2.2.2.2.1
  have c0 : ∀ kb : Bel W7, kb.val.cell? ⟨w6.heap.size, 0, none⟩ = some (.int .u8 5) := fun kb => (A2 kb).1
  have c8 := fun kb : Bel W7 => (A2 kb).2.2.2.2.2
  have d1 := fun kb : Bel W7 => (A3 kb).2.1
  have d2 := fun kb : Bel W7 => (A3 kb).2.2.1
  have d3 := fun kb : Bel W7 => (A3 kb).2.2.2.1
  have d4 := fun kb : Bel W7 => (A3 kb).2.2.2.2.1
  clear A0 A1 A2 A3
  refine region_bel W7 (Below.refl _ _) (by kernel_rfl) (by kernel_rfl) ?_
  repeat (go_big_quiet_step (fail))
  refine wpQuiet_nil ?_
  intro kb
  have HB8 := Lib.hid (HB7.out.trans (kb.below.mono HB7.out.size))
  have HN8 := Lib.hid (blk_below HN7.out kb.below (blk_lt HN7.out))
  have HR8 := Lib.hid (blk_below HR7.out kb.below (blk_lt HR7.out))
  have HD8 := Lib.hid (blk_below HD7.out kb.below (blk_lt HD7.out))
  obtain ⟨w8, hw8⟩ : ∃ W, kb.val = W := ⟨_, rfl⟩
  rw [hw8] at HB8 HN8 HR8 HD8 ⊢
  have HPT : Hid (∀ W, W.heap[D]? = some (.cells (seC f) 30 (0, 0)) → Calls Tryz.prog 7 #[.agg (ndC 5 noneF 0 (-1) 0 (.slice (some ⟨D, 0, none⟩) 1 1)), .bool x] W fun e w' => e = .returned (.tuple #[.string ⟨(setT x f ++ [42]).toArray⟩, .int .i64 0]) ∧ Below W.heap.size W w') := fun W hW => by
    have h := Print_rep x f D W hW
    rw [reC_eq] at h
    exact h
  clear hw8 kb a0 a1 a2 a3 b0 b1 b2 b3 b4 c0 c8 d1 d2 d3 d4
  cases x with
  | true =>
    have HG : Hid (∀ W, Calls Tryz.prog 6 #[.string ({ data := #[40] } ++ T ++ { data := #[41] }), .bool true] W fun e w' => ParseP 6 noneF 0 1 (some f) W.heap.size e w' ∧ Below W.heap.size W w') := HP3.out
    clear HP3
    go_wp2_with fail
    refine (HG.out w8).mono ?_
    rintro e w9 ⟨⟨v9, rfl, hk9⟩, hb9⟩
    obtain ⟨E, rfl, hE, heb⟩ := hk9
    have HB9 := Lib.hid (HB8.out.trans (hb9.mono HB8.out.size))
    have HN9 := Lib.hid (blk_below HN8.out hb9 (blk_lt HN8.out))
    have HR9 := Lib.hid (blk_below HR8.out hb9 (blk_lt HR8.out))
    have HD9 := Lib.hid (blk_below HD8.out hb9 (blk_lt HD8.out))
    obtain ⟨W10, hb10, h10, e10⟩ := one_node w9 (nd_ndC 6 noneF 0 0 1 (v := .slice (some ⟨E, 0, none⟩) 1 1) rfl)
    have HB10 := Lib.hid (HB9.out.trans (hb10.mono HB9.out.size))
    have HN10 := Lib.hid (blk_below HN9.out hb10 (blk_lt HN9.out))
    have HR10 := Lib.hid (blk_below HR9.out hb10 (blk_lt HR9.out))
    have HD10 := Lib.hid (blk_below HD9.out hb10 (blk_lt HD9.out))
    have HE10 := Lib.hid (blk_below heb hb10 (blk_lt heb))
    have HG10 := Lib.hid h10
    have z10 : (ndC 6 noneF 0 0 1 (.slice (some ⟨E, 0, none⟩) 1 1)).size = 9 := rfl
    clear hb9 hb10 h10 heb hE
    go_wp2_with (refine wpList_load_row (by rfl) 30 (.tmp 9) (by rfl) w6.heap.size (by rfl) 30 _ (0, 0) _ HR10.out Tryz.underlying30 (by rfl) info30 ?_)
    refine (HPT.out W10 HD10.out).mono ?_
    rintro e w11 ⟨rfl, hb11⟩
    obtain ⟨rs, hrs⟩ : ∃ rs : ByteArray, (⟨(setT true f ++ [42]).toArray⟩ : ByteArray) = rs := ⟨_, rfl⟩
    rw [hrs]
    have HQ := Lib.hid (HP4.out rs hrs.symm)
    have HB11 := Lib.hid (HB10.out.trans (hb11.mono HB10.out.size))
    have HN11 := Lib.hid (blk_below HN10.out hb11 (blk_lt HN10.out))
    have HE11 := Lib.hid (blk_below HE10.out hb11 (blk_lt HE10.out))
    have HG11 := Lib.hid (blk_below HG10.out hb11 (blk_lt HG10.out))
    clear hb11 e10 hrs
    go_wp2_with fail
    refine (HQ.out w11).mono ?_
    rintro e w12 ⟨⟨v12, rfl, hk12⟩, hb12⟩
    obtain ⟨F, rfl, hF, hfb⟩ := hk12
    have HB12 := Lib.hid (HB11.out.trans (hb12.mono HB11.out.size))
    have HN12 := Lib.hid (blk_below HN11.out hb12 (blk_lt HN11.out))
    have HE12 := Lib.hid (blk_below HE11.out hb12 (blk_lt HE11.out))
    have HG12 := Lib.hid (blk_below HG11.out hb12 (blk_lt HG11.out))
    obtain ⟨W13, hb13, h13, e13⟩ := one_node w12 (nd_ndC 5 noneF 0 (-1) 0 (v := .slice (some ⟨F, 0, none⟩) 1 1) rfl)
    have HB13 := Lib.hid (HB12.out.trans (hb13.mono HB12.out.size))
    have HN13 := Lib.hid (blk_below HN12.out hb13 (blk_lt HN12.out))
    have HE13 := Lib.hid (blk_below HE12.out hb13 (blk_lt HE12.out))
    have HG13 := Lib.hid (blk_below HG12.out hb13 (blk_lt HG12.out))
    have HF13 := Lib.hid (blk_below hfb hb13 (blk_lt hfb))
    have HU13 := Lib.hid h13
    have z13 : (ndC 5 noneF 0 (-1) 0 (.slice (some ⟨F, 0, none⟩) 1 1)).size = 9 := rfl
    clear hb12 hb13 h13 hfb hF
    go_wp2_with fail
    clear e13
    have A0 : ∀ kb : Bel W13, (kb.val.cell? ⟨w.heap.size, 0, none⟩ = some (.int .u64 (sW f 0 : Nat)) ∧ kb.val.cell? ⟨w.heap.size, 1, none⟩ = some (.int .u64 (sW f 1 : Nat)) ∧ kb.val.cell? ⟨w.heap.size, 2, none⟩ = some (.int .u64 (sW f 2 : Nat)) ∧ kb.val.cell? ⟨w.heap.size, 3, none⟩ = some (.int .u64 (sW f 3 : Nat))) := fun kb => by
      have h := blk_below HN13.out kb.below (blk_lt HN13.out)
      unfold setC at h
      exact ⟨(blk_at h 0 rfl).1, (blk_at h 1 rfl).1, (blk_at h 2 rfl).1, (blk_at h 3 rfl).1⟩
    have A1 := fun kb : Bel W13 => node_words (blk_below HG13.out kb.below (blk_lt HG13.out))
    have A2 := fun kb : Bel W13 => node_words (blk_below HU13.out kb.below (blk_lt HU13.out))
    have A3 := fun kb : Bel W13 => node_words (blk_below HE13.out kb.below (blk_lt HE13.out))
    have A4 := fun kb : Bel W13 => node_words (blk_below HF13.out kb.below (blk_lt HF13.out))
    have a0 := fun kb : Bel W13 => (A0 kb).1
    have a1 := fun kb : Bel W13 => (A0 kb).2.1
    have a2 := fun kb : Bel W13 => (A0 kb).2.2.1
    have a3 := fun kb : Bel W13 => (A0 kb).2.2.2
    have b0 : ∀ kb : Bel W13, kb.val.cell? ⟨w9.heap.size, 0, none⟩ = some (.int .u8 6) := fun kb => (A1 kb).1
    have b8 := fun kb : Bel W13 => (A1 kb).2.2.2.2.2
    have c0 : ∀ kb : Bel W13, kb.val.cell? ⟨w12.heap.size, 0, none⟩ = some (.int .u8 5) := fun kb => (A2 kb).1
    have c8 := fun kb : Bel W13 => (A2 kb).2.2.2.2.2
    have d1 := fun kb : Bel W13 => (A3 kb).2.1
    have d2 := fun kb : Bel W13 => (A3 kb).2.2.1
    have d3 := fun kb : Bel W13 => (A3 kb).2.2.2.1
    have d4 := fun kb : Bel W13 => (A3 kb).2.2.2.2.1
    have f1 := fun kb : Bel W13 => (A4 kb).2.1
    have f2 := fun kb : Bel W13 => (A4 kb).2.2.1
    have f3 := fun kb : Bel W13 => (A4 kb).2.2.2.1
    have f4 := fun kb : Bel W13 => (A4 kb).2.2.2.2.1
    clear A0 A1 A2 A3 A4
    refine region_bel W13 (Below.refl _ _) (by kernel_rfl) (by kernel_rfl) ?_
    repeat (go_big_quiet_step (fail))
    refine wpQuiet_nil ?_
    intro kb
    have HB14 := Lib.hid (HB13.out.trans (kb.below.mono HB13.out.size))
    go_wp2_with fail
    go_ret
    exact ⟨rfl, HB14.out⟩
  | false =>
    have HG : Hid (∀ W, Calls Tryz.prog 6 #[.string ({ data := #[92, 40] } ++ T ++ { data := #[92, 41] }), .bool false] W fun e w' => ParseP 6 noneF 0 1 (some f) W.heap.size e w' ∧ Below W.heap.size W w') := HP3.out
    clear HP3
    go_wp2_with fail
    refine (HG.out w8).mono ?_
    rintro e w9 ⟨⟨v9, rfl, hk9⟩, hb9⟩
    obtain ⟨E, rfl, hE, heb⟩ := hk9
    have HB9 := Lib.hid (HB8.out.trans (hb9.mono HB8.out.size))
    have HN9 := Lib.hid (blk_below HN8.out hb9 (blk_lt HN8.out))
    have HR9 := Lib.hid (blk_below HR8.out hb9 (blk_lt HR8.out))
    have HD9 := Lib.hid (blk_below HD8.out hb9 (blk_lt HD8.out))
    obtain ⟨W10, hb10, h10, e10⟩ := one_node w9 (nd_ndC 6 noneF 0 0 1 (v := .slice (some ⟨E, 0, none⟩) 1 1) rfl)
    have HB10 := Lib.hid (HB9.out.trans (hb10.mono HB9.out.size))
    have HN10 := Lib.hid (blk_below HN9.out hb10 (blk_lt HN9.out))
    have HR10 := Lib.hid (blk_below HR9.out hb10 (blk_lt HR9.out))
    have HD10 := Lib.hid (blk_below HD9.out hb10 (blk_lt HD9.out))
    have HE10 := Lib.hid (blk_below heb hb10 (blk_lt heb))
    have HG10 := Lib.hid h10
    have z10 : (ndC 6 noneF 0 0 1 (.slice (some ⟨E, 0, none⟩) 1 1)).size = 9 := rfl
    clear hb9 hb10 h10 heb hE
    go_wp2_with (refine wpList_load_row (by rfl) 30 (.tmp 9) (by rfl) w6.heap.size (by rfl) 30 _ (0, 0) _ HR10.out Tryz.underlying30 (by rfl) info30 ?_)
    refine (HPT.out W10 HD10.out).mono ?_
    rintro e w11 ⟨rfl, hb11⟩
    obtain ⟨rs, hrs⟩ : ∃ rs : ByteArray, (⟨(setT false f ++ [42]).toArray⟩ : ByteArray) = rs := ⟨_, rfl⟩
    rw [hrs]
    have HQ := Lib.hid (HP4.out rs hrs.symm)
    have HB11 := Lib.hid (HB10.out.trans (hb11.mono HB10.out.size))
    have HN11 := Lib.hid (blk_below HN10.out hb11 (blk_lt HN10.out))
    have HE11 := Lib.hid (blk_below HE10.out hb11 (blk_lt HE10.out))
    have HG11 := Lib.hid (blk_below HG10.out hb11 (blk_lt HG10.out))
    clear hb11 e10 hrs
    go_wp2_with fail
    refine (HQ.out w11).mono ?_
    rintro e w12 ⟨⟨v12, rfl, hk12⟩, hb12⟩
    obtain ⟨F, rfl, hF, hfb⟩ := hk12
    have HB12 := Lib.hid (HB11.out.trans (hb12.mono HB11.out.size))
    have HN12 := Lib.hid (blk_below HN11.out hb12 (blk_lt HN11.out))
    have HE12 := Lib.hid (blk_below HE11.out hb12 (blk_lt HE11.out))
    have HG12 := Lib.hid (blk_below HG11.out hb12 (blk_lt HG11.out))
    obtain ⟨W13, hb13, h13, e13⟩ := one_node w12 (nd_ndC 5 noneF 0 (-1) 0 (v := .slice (some ⟨F, 0, none⟩) 1 1) rfl)
    have HB13 := Lib.hid (HB12.out.trans (hb13.mono HB12.out.size))
    have HN13 := Lib.hid (blk_below HN12.out hb13 (blk_lt HN12.out))
    have HE13 := Lib.hid (blk_below HE12.out hb13 (blk_lt HE12.out))
    have HG13 := Lib.hid (blk_below HG12.out hb13 (blk_lt HG12.out))
    have HF13 := Lib.hid (blk_below hfb hb13 (blk_lt hfb))
    have HU13 := Lib.hid h13
    have z13 : (ndC 5 noneF 0 (-1) 0 (.slice (some ⟨F, 0, none⟩) 1 1)).size = 9 := rfl
    clear hb12 hb13 h13 hfb hF
    go_wp2_with fail
    clear e13
    have A0 : ∀ kb : Bel W13, (kb.val.cell? ⟨w.heap.size, 0, none⟩ = some (.int .u64 (sW f 0 : Nat)) ∧ kb.val.cell? ⟨w.heap.size, 1, none⟩ = some (.int .u64 (sW f 1 : Nat)) ∧ kb.val.cell? ⟨w.heap.size, 2, none⟩ = some (.int .u64 (sW f 2 : Nat)) ∧ kb.val.cell? ⟨w.heap.size, 3, none⟩ = some (.int .u64 (sW f 3 : Nat))) := fun kb => by
      have h := blk_below HN13.out kb.below (blk_lt HN13.out)
      unfold setC at h
      exact ⟨(blk_at h 0 rfl).1, (blk_at h 1 rfl).1, (blk_at h 2 rfl).1, (blk_at h 3 rfl).1⟩
    have A1 := fun kb : Bel W13 => node_words (blk_below HG13.out kb.below (blk_lt HG13.out))
    have A2 := fun kb : Bel W13 => node_words (blk_below HU13.out kb.below (blk_lt HU13.out))
    have A3 := fun kb : Bel W13 => node_words (blk_below HE13.out kb.below (blk_lt HE13.out))
    have A4 := fun kb : Bel W13 => node_words (blk_below HF13.out kb.below (blk_lt HF13.out))
    have a0 := fun kb : Bel W13 => (A0 kb).1
    have a1 := fun kb : Bel W13 => (A0 kb).2.1
    have a2 := fun kb : Bel W13 => (A0 kb).2.2.1
    have a3 := fun kb : Bel W13 => (A0 kb).2.2.2
    have b0 : ∀ kb : Bel W13, kb.val.cell? ⟨w9.heap.size, 0, none⟩ = some (.int .u8 6) := fun kb => (A1 kb).1
    have b8 := fun kb : Bel W13 => (A1 kb).2.2.2.2.2
    have c0 : ∀ kb : Bel W13, kb.val.cell? ⟨w12.heap.size, 0, none⟩ = some (.int .u8 5) := fun kb => (A2 kb).1
    have c8 := fun kb : Bel W13 => (A2 kb).2.2.2.2.2
    have d1 := fun kb : Bel W13 => (A3 kb).2.1
    have d2 := fun kb : Bel W13 => (A3 kb).2.2.1
    have d3 := fun kb : Bel W13 => (A3 kb).2.2.2.1
    have d4 := fun kb : Bel W13 => (A3 kb).2.2.2.2.1
    have f1 := fun kb : Bel W13 => (A4 kb).2.1
    have f2 := fun kb : Bel W13 => (A4 kb).2.2.1
    have f3 := fun kb : Bel W13 => (A4 kb).2.2.2.1
    have f4 := fun kb : Bel W13 => (A4 kb).2.2.2.2.1
    clear A0 A1 A2 A3 A4
    refine region_bel W13 (Below.refl _ _) (by kernel_rfl) (by kernel_rfl) ?_
    repeat (go_big_quiet_step (fail))
    refine wpQuiet_nil ?_
    intro kb
    have HB14 := Lib.hid (HB13.out.trans (kb.below.mono HB13.out.size))
    go_wp2_with fail
    go_ret
    exact ⟨rfl, HB14.out⟩
end Go.Proofs.YtlhppbendpnkeaaGreatDoor
