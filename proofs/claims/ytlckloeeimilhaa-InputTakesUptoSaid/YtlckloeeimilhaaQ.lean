/- Lines with errors ahead. -/
import Derived.Test.YtlckloeeimilhaaP
import Derived.Test.YtlckloeeimilhaaJ
import Derived.Test.YtlckloeeimilhaaE
namespace Go.Proofs.Ytlckloeeimilhaa
set_option linter.unusedSimpArgs false
set_option linter.unusedVariables false
open Go.RowKit

/-- The lines of inputs from the k-th on, ahead of the first error. -/
def itemsE : Nat → List Tl → List Item
  | _, [] => []
  | k, (d, e) :: r => if e = 31 then itemsE (k + 1) r else if e = 0 then itemsOf k 0 (splitL d) ++ itemsE (k + 1) r else []
def endE : Nat → List Tl → Nat
  | k, [] => k
  | k, (d, e) :: r => if e = 31 then endE (k + 1) r else if e = 0 then endE (k + 1) r else k
def icells : List Item → List Value
  | [] => []
  | ((t, b), k, _) :: r => .string t :: .bool b :: .int .i64 (k : Int) :: icells r
theorem icells_append (a b : List Item) : icells (a ++ b) = icells a ++ icells b := by
  induction a with
  | nil => rfl
  | cons x r ih => obtain ⟨⟨t, b⟩, k, m⟩ := x; simp [icells, ih]
theorem icells_get (l : List Item) : ∀ (i : Nat) (hi : i < l.length), (icells l)[i * 3]? = some (.string l[i].1.1) ∧ (icells l)[i * 3 + 1]? = some (.bool l[i].1.2) ∧ (icells l)[i * 3 + 2]? = some (.int .i64 (l[i].2.1 : Int)) := by
  induction l with
  | nil => intro i hi; simp at hi
  | cons x r ih =>
    obtain ⟨⟨t, b⟩, k, m⟩ := x
    intro i hi
    cases i with
    | zero => exact ⟨rfl, rfl, rfl⟩
    | succ i =>
      have h := ih i (by simpa using hi)
      rw [show (i + 1) * 3 = i * 3 + 1 + 1 + 1 by omega]
      simpa [icells] using h
/-- A row of items of one's own. -/
def Is (w : World) (base : Nat) (v : Value) (l : List Item) : Prop := w.ownsRow base 67 3 v l.length (icells l)
theorem Is.to {w w1 : World} {base : Nat} {v : Value} {l : List Item} (h : Is w base v l) (hb : Below w.heap.size w w1) : Is w1 base v l := row_to hb h
theorem Is.snoc {w : World} {base : Nat} {q : Value} {l : List Item} {n : Nat} {t : ByteArray} {b : Bool} {k m : Nat} (hn : n = l.length + 1) (h : w.ownsRow base 67 3 q n (icells l ++ [.string t, .bool b, .int .i64 (k : Int)])) : Is w base q (l ++ [((t, b), k, m)]) := by
  subst hn
  unfold Is
  rw [icells_append, List.length_append]
  exact h
/-- v shows what was told. -/
def Tv (w : World) (v : Value) (tl : List Tl) : Prop := ∃ ao cap, v = .slice ao tl.length cap ∧ tl.length ≤ cap ∧ (0 < tl.length → ∃ b off, ao = some ⟨b, off, none⟩ ∧ b < w.heap.size ∧ ∀ i (hi : i < tl.length), w.cell? ⟨b, off + i * 2, none⟩ = some (.string tl[i].1) ∧ w.cell? ⟨b, off + i * 2 + 1, none⟩ = some (.int .i64 tl[i].2))
theorem Tv.to {w w' : World} {v : Value} {tl : List Tl} (h : Tv w v tl) (hb : Below w.heap.size w w') : Tv w' v tl := by
  obtain ⟨ao, cap, rfl, hle, h2⟩ := h
  refine ⟨ao, cap, rfl, hle, fun hn => ?_⟩
  obtain ⟨b, off, rfl, hl, hc⟩ := h2 hn
  exact ⟨b, off, rfl, Nat.lt_of_lt_of_le hl hb.size, fun i hi => ⟨(hb.cell (p := ⟨b, _, none⟩) hl).trans (hc i hi).1, (hb.cell (p := ⟨b, _, none⟩) hl).trans (hc i hi).2⟩⟩
theorem Tv.ofOwn {w : World} {base : Nat} {v : Value} {tl : List Tl} (h : w.ownsRow base 32 2 v tl.length (tcells tl)) : Tv w v tl := by
  obtain ⟨ao, cap, rfl, hle, hc⟩ := row_shape h
  refine ⟨ao, cap, rfl, hle, fun hn => ?_⟩
  obtain ⟨g, rfl, hcc⟩ := hc hn
  have hlt : g < w.heap.size := (World.ownsRow.lt h g rfl).2
  refine ⟨g, 0, rfl, hlt, fun i hi => ?_⟩
  have := tcells_get tl i hi
  rw [Nat.zero_add]
  exact ⟨hcc _ _ this.1, hcc _ _ this.2⟩

theorem info67 : (Try.prog.info? 67).map (fun i => (i.zero, i.size, i.bytes)) = some (some (.agg #[(.string ⟨#[]⟩), (.bool false), (.int .i64 0)]), 3, 32) := by kernel_rfl
theorem cells_three (w : World) (x y z : Value) (t : TypeId) : ∀ j u, [x, y, z][j]? = some u → (w.alloc (.cells #[x, y, z] t)).cell? ((⟨w.heap.size, 0, none⟩ : Addr).add j) = some u := fun j u hu => by
  have hb : (w.alloc (.cells #[x, y, z] t)).heap[w.heap.size]? = some (.cells #[x, y, z] t (0, 0)) := heap_alloc_new w _
  exact World.news_of_block hb j u hu

theorem itemsOf_length (k : Nat) : ∀ (ls : List Ln) (m : Nat), (itemsOf k m ls).length = ls.length := by
  intro ls
  induction ls with
  | nil => intro m; rfl
  | cons l r ih => intro m; simp [itemsOf, ih]
theorem itemsOf_get (k : Nat) : ∀ (ls : List Ln) (m i : Nat) (hi : i < ls.length), (itemsOf k m ls)[i]? = some (ls[i], k, m + i + 1) := by
  intro ls
  induction ls with
  | nil => intro m i hi; simp at hi
  | cons l r ih =>
    intro m i hi
    cases i with
    | zero => rfl
    | succ i =>
      simp only [itemsOf, List.getElem?_cons_succ, List.getElem_cons_succ]
      rw [ih (m + 1) i (by simpa using hi)]
      congr 3; omega
/-- The state of the outer loop. -/
def AJ (w : World) (tl : List Tl) (k : Nat) (s4 : Value) (wr : World) : Prop :=
  ∃ done, Is wr w.heap.size s4 done ∧ done ++ itemsE k (tl.drop k) = itemsE 0 tl ∧ endE k (tl.drop k) = endE 0 tl ∧ Below w.heap.size w wr

set_option maxRecDepth 8000 in
set_option maxHeartbeats 3200000 in
theorem ahead_any (v : Value) (tl : List Tl) (w : World) (h : Tv w v tl) (hs : ∀ d ∈ tl, d.1.size ≤ 4194304) (hI : (itemsE 0 tl).length ≤ 4194304) (htl : tl.length ≤ 4194304) :
    Calls Try.prog 26 #[v] w fun e w' => ∃ u, e = .returned (.tuple #[u, .int .i64 (endE 0 tl : Nat)]) ∧ Is w' w.heap.size u (itemsE 0 tl) ∧ Below w.heap.size w w' := by
  obtain ⟨i0, hi0, hz0, hz1, hz2⟩ := info_parts info67
  have HV := Lib.hid h
  have HS := Lib.hid hs
  have HI := Lib.hid hI
  obtain ⟨va, vc, rfl, _, _⟩ := h
  clear hs hI
  go_enter Try.func26, Try.ntmps26
  go_wp2_with fail
  go_loopw [4, 11] (fun s4 s11 wr => ∃ k : Nat, k ≤ tl.length ∧ s11 = .int .i64 k ∧ AJ w tl k s4 wr) (fun _ s11 _ => tl.length - (intOf s11).toNat)
  case atStart => exact ⟨0, Nat.zero_le _, rfl, [], World.ownsRow_nil _ _ _ _, rfl, rfl, Below.refl _ _⟩
  case round =>
    obtain ⟨k, hk, rfl, done, g1, g2, g3, g4⟩ := hrel
    have HO := Lib.hid g1
    have HW := Lib.hid g4
    have hbs := g4.size
    by_cases hlt : k < tl.length
    · obtain ⟨_, _, e1, _, hc1⟩ := HV.out.to g4
      simp only [Value.slice.injEq, true_and] at e1
      obtain ⟨rfl, rfl⟩ := e1
      obtain ⟨b, off, rfl, hbl, hc⟩ := hc1 (by omega)
      obtain ⟨d0, d1⟩ := hc k hlt
      have hsz := HS.out tl[k] (List.getElem_mem hlt)
      rw [List.drop_eq_getElem_cons hlt] at g2 g3
      obtain ⟨x, hx⟩ : ∃ x, tl[k] = x := ⟨_, rfl⟩
      rw [hx] at d0 d1 g2 g3 hsz
      obtain ⟨d, y⟩ := x
      simp only at d0 d1 hsz
      have hk1 : (k : Int) < (tl.length : Int) := by omega
      simp only [itemsE, endE] at g2 g3
      by_cases h31 : y = 31
      · subst h31
        rw [if_pos rfl] at g2 g3
        have G2 := Lib.hid g2
        have G3 := Lib.hid g3
        have HB5 := Lib.hid (bl_to g4 (bl_alloc wr (.cells #[.string d, .int .i64 31] 32)))
        have HO5 := Lib.hid (g1.to (bl_alloc wr (.cells #[.string d, .int .i64 31] 32)))
        clear g1 g2 g3 g4 hc1 hc hx
        go_wp2_with fail
        go_roundw
        case rel => exact ⟨k + 1, by omega, by go_num, done, HO5.out, G2.out, G3.out, HB5.out⟩
        case measure => simp [intOf]; omega
      · have q31 : (y == 31) = false := by simpa using h31
        rw [if_neg h31] at g2 g3
        by_cases h0 : y = 0
        · subst h0
          rw [if_pos rfl] at g2 g3
          have HB5 := Lib.hid (bl_to g4 (bl_alloc wr (.cells #[.string d, .int .i64 0] 32)))
          have HO5 := Lib.hid (g1.to (bl_alloc wr (.cells #[.string d, .int .i64 0] 32)))
          have HP := Lib.hid (fun W => rsplit_any d W hsz)
          have G2 := Lib.hid g2
          have G3 := Lib.hid g3
          clear g1 g2 g3 g4 hc1 hc hx
          go_wp2_with fail
          refine (HP.out _).mono ?_
          rintro e w2 ⟨lv, rfl, hls, hb2⟩
          have HB2 := Lib.hid (bl_to HB5.out hb2)
          have HO2 := Lib.hid (HO5.out.to hb2)
          have hln := splitL_length d
          obtain ⟨ao, cap, rfl, _, _⟩ := row_shape hls
          obtain ⟨ls, hlsd⟩ : ∃ ls, splitL d = ls := ⟨_, rfl⟩
          rw [hlsd] at hls hln G2
          obtain ⟨B2, hB2⟩ : ∃ B2, (wr.alloc (.cells #[.string d, .int .i64 0] 32)).heap.size = B2 := ⟨_, rfl⟩
          rw [hB2] at hls
          have HLS := Lib.hid hls
          have hl2 : ls.length ≤ 4194304 := by omega
          have H0 : Hid (Is w2 w.heap.size u4 (done ++ (itemsOf k 0 ls).take 0)) := by show Is _ _ _ _; rw [List.take_zero, List.append_nil]; exact HO2.out
          have HTL : Hid (done.length + ls.length ≤ 4194304) := by
            have := HI.out
            rw [← G2.out] at this
            simp [itemsOf_length] at this
            show _ ≤ _; omega
          rw [hlsd]
          clear hls hb2 hlsd hB2 HP HO5 HB5 HO HW hbs hbl d0 d1 hln hsz
          go_wp2_with fail
          go_loopw [4, 28] (fun s4 s28 wr => ∃ j : Nat, j ≤ ls.length ∧ s28 = .int .i64 j ∧ Is wr w.heap.size s4 (done ++ (itemsOf k 0 ls).take j) ∧ Ls wr B2 (.slice ao ls.length cap) ls ∧ Below w.heap.size w wr) (fun _ s28 _ => ls.length - (intOf s28).toNat)
          case atStart => exact ⟨0, Nat.zero_le _, rfl, H0.out, HLS.out, HB2.out⟩
          case round =>
            clear H0 HLS HB2 HO2
            obtain ⟨j, hj, rfl, g1, g2, g3⟩ := hrel
            have HO := Lib.hid g1
            have HL := Lib.hid g2
            have HW := Lib.hid g3
            have hbs := g3.size
            by_cases hjt : j < ls.length
            · obtain ⟨_, _, e1, _, hc1⟩ := row_shape g2
              simp only [Value.slice.injEq, true_and] at e1
              obtain ⟨rfl, rfl⟩ := e1
              obtain ⟨gl, rfl, hc⟩ := hc1 (by omega)
              have hcc := lcells_get ls j hjt
              have d0 := hc _ _ hcc.1
              have d1 := hc _ _ hcc.2
              have hit := itemsOf_get k ls 0 j hjt
              obtain ⟨x, hx⟩ : ∃ x, ls[j] = x := ⟨_, rfl⟩
              rw [hx] at d0 d1 hit
              obtain ⟨lt, lb⟩ := x
              simp only at d0 d1
              have HTK : Hid (done ++ (itemsOf k 0 ls).take (j + 1) = (done ++ (itemsOf k 0 ls).take j) ++ [((lt, lb), k, 0 + j + 1)]) := by
                show _ = _
                rw [List.take_add_one, hit, List.append_assoc]; rfl
              have hj1 : (j : Int) < (ls.length : Int) := by omega
              have hln : (done ++ (itemsOf k 0 ls).take j).length = done.length + j := by rw [List.length_append, List.length_take, itemsOf_length]; omega
              obtain ⟨DN, hDN⟩ : ∃ D, done ++ (itemsOf k 0 ls).take j = D := ⟨_, rfl⟩
              rw [hDN] at hln HTK HO
              have hdn : DN.length ≤ 4194304 := by have := HTL.out; omega
              have h63 : DN.length + 1 ≤ maxLen := by unfold maxLen; omega
              have hby : (DN.length + 1) * 32 ≤ 140737488355328 := by omega
              have hW2 := bl_to (bl_alloc wr (.cells #[.string lt, .bool lb] 37)) (bl_alloc _ (.cells #[.string lt, .bool lb, .int .i64 k] 67))
              have HW2 := Lib.hid hW2
              have HO2 := Lib.hid (HO.out.to hW2)
              clear hc1 hc hcc hit hx g1 g2 g3 hln hDN hW2
              go_wp2_with (at_builtin; go_must (refine wpList_append_own _ rfl (.tmp 32) (.tmp 36) 63 rfl w.heap.size 67 i0 (.agg #[(.string ⟨#[]⟩), (.bool false), (.int .i64 0)]) 3 32 Try.underlying63 hi0 hz0 hz1 hz2 rfl (by decide) _ DN.length (icells DN) rfl HO2.out ⟨wr.heap.size + 1, 0, none⟩ 1 1 [.string lt, .bool lb, .int .i64 k] rfl rfl (by have := cells_three (wr.alloc (.cells #[.string lt, .bool lb] 37)) (.string lt) (.bool lb) (.int .i64 k) 67; simpa using this) (by intro u hu; simp at hu; rcases hu with rfl | rfl | rfl <;> rfl) h63 hby (by simp; omega) ?_))
              intro nv w3 hown hgrow hiff
              have hf3 : Fr (fun j => Value.ownBlock u4 = some j) wr w3 := (Fr.ofBelow _ HW2.out).trans (Fr.ofGrown hgrow) (fun i _ hi => hi)
              have HW3 := Lib.hid (HW.out.trans (hf3.toBelow hbs (fun i _ hi => (World.ownsRow.lt HO.out i hi).1)))
              have HO3 : Hid (Is w3 w.heap.size nv (done ++ (itemsOf k 0 ls).take (j + 1))) := by show Is _ _ _ _; rw [HTK.out]; exact Is.snoc rfl hown
              have HL3 := Lib.hid (row_fr hf3 HL.out (fun g hg e => by
                obtain ⟨_, cs, hcs⟩ := row_block HO.out e
                exact row_ne HL.out hcs (by decide) hg))
              clear hown hgrow hiff hf3
              go_wp2_with fail
              go_roundw
              case rel => exact ⟨j + 1, by omega, by go_num, HO3.out, HL3.out, HW3.out⟩
              case measure => simp [intOf]; omega
            · obtain rfl : j = ls.length := by omega
              rw [List.take_of_length_le (by rw [itemsOf_length]; exact Nat.le_refl _)] at g1
              have HO2 := Lib.hid g1
              have HG2 : Hid ((done ++ itemsOf k 0 ls) ++ itemsE (k + 1) (tl.drop (k + 1)) = itemsE 0 tl) := by show _ = _; rw [List.append_assoc]; exact G2.out
              have hx1 : ¬ (ls.length : Int) < (ls.length : Int) := by omega
              clear g1 g2 g3
              go_wp2_with fail
              go_roundw
              case rel => exact ⟨k + 1, by omega, by go_num, _, HO2.out, HG2.out, G3.out, HW.out⟩
              case measure => simp [intOf]; omega
        · have q0 : (y != 0) = true := by simpa using h0
          rw [if_neg h0] at g2 g3
          have HE : Hid (done = itemsE 0 tl ∧ k = endE 0 tl) := ⟨by rw [← g2, List.append_nil], g3⟩
          have HB5 := Lib.hid (bl_to g4 (bl_alloc wr (.cells #[.string d, .int .i64 y] 32)))
          have HO5 := Lib.hid (g1.to (bl_alloc wr (.cells #[.string d, .int .i64 y] 32)))
          clear g1 g2 g3 g4 hc1 hc hx
          go_wp2_with fail
          go_ret2
          exact ⟨u4, by rw [← HE.out.2]; rfl, by rw [← HE.out.1]; exact HO5.out, HB5.out⟩
    · obtain rfl : k = tl.length := by omega
      rw [List.drop_of_length_le (Nat.le_refl _)] at g2 g3
      have HE : Hid (done = itemsE 0 tl ∧ tl.length = endE 0 tl) := ⟨by rw [← g2]; simp [itemsE], by rw [← g3]; rfl⟩
      have hx1 : ¬ (tl.length : Int) < (tl.length : Int) := by omega
      clear g1 g2 g3 g4
      go_wp2_with fail
      go_ret2
      exact ⟨u4, by rw [← HE.out.2]; rfl, by rw [← HE.out.1]; exact HO.out, HW.out⟩
end Go.Proofs.Ytlckloeeimilhaa
