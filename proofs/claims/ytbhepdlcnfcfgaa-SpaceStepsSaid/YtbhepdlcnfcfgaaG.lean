/- Same; the walk of SpaceQueue. -/
import Derived.Test.YtbhepdlcnfcfgaaR
import Derived.Laws.StructEq
import Derived.Deep.DeepMust
namespace Go.Proofs.Ytbhepdlcnfcfgaa
set_option linter.unusedSimpArgs false
set_option linter.unusedVariables false
open Go.RowKit

/-- v shows the items l. -/
def Its (w : World) (v : Value) (l : List It) : Prop := Rd w v l.length 2 (icells l)

theorem Its.shape {w : World} {v : Value} {l : List It} (h : Its w v l) : ∃ ao cap, v = .slice ao l.length cap ∧ (0 < l.length → ∃ b off, ao = some ⟨b, off, none⟩ ∧ b < w.heap.size ∧ ∀ i (hi : i < l.length),
    w.cell? ⟨b, off + i * 2, none⟩ = some (.int .u8 l[i].1) ∧ w.cell? ⟨b, off + i * 2 + 1, none⟩ = some (.string l[i].2)) := by
  obtain ⟨_, ao, cap, rfl, h2⟩ := h
  refine ⟨ao, cap, rfl, fun hn => ?_⟩
  obtain ⟨b, off, rfl, hl, hc⟩ := h2 hn
  refine ⟨b, off, rfl, hl, fun i hi => ?_⟩
  have hx := icells_get l i hi
  exact ⟨hc _ _ hx.1, hc _ _ hx.2⟩

theorem Qu.its {w : World} {base : Nat} {v : Value} {l : List It} (h : Qu w base v l) : Its w v l := by
  refine ⟨h.1, ?_⟩
  rcases h.2 with ⟨rfl, h0⟩ | ⟨g, cap, cur, rfl, hb, hg, _⟩
  · exact ⟨none, 0, by rw [h0], fun h => by omega⟩
  · refine ⟨_, _, rfl, fun _ => ⟨g, 0, rfl, lt_of_block hg, fun j u hu => ?_⟩⟩
    have hc := World.ownsRow.cells h (g := g) rfl j u hu
    have ea : (⟨g, 0, none⟩ : Addr).add j = ⟨g, 0 + j, none⟩ := by unfold Addr.add; split <;> simp_all
    rwa [ea] at hc

theorem Its.to {w w' : World} {v : Value} {l : List It} (h : Its w v l) (hb : Below w.heap.size w w') : Its w' v l := Rd.same h hb (Nat.le_refl _)

set_option maxHeartbeats 1600000 in
theorem Same_yes (u v : Value) (l : List It) (w : World) (hu : Its w u l) (hv : Its w v l) (hn : l.length ≤ 4611686018427387904) :
    Calls Try.prog 21 #[u, v] w fun e w' => e = .returned (.bool true) ∧ Below w.heap.size w w' := by
  obtain ⟨ao, cap, rfl, hc⟩ := hu.shape
  obtain ⟨ao', cap', rfl, hc'⟩ := hv.shape
  clear hu hv
  have HC := Lib.hid hc
  have HC' := Lib.hid hc'
  clear hc hc'
  go_enter Try.func21, Try.ntmps21
  go_wp2
  go_loopw [5] (fun i wr => ∃ j : Nat, j ≤ l.length ∧ i = .int .i64 j ∧ Below w.heap.size w wr) (fun i _ => l.length - (intOf i).toNat)
  case atStart => exact ⟨0, Nat.zero_le _, rfl, Below.refl _ _⟩
  case round =>
    obtain ⟨j, hj, rfl, hbel⟩ := hrel
    by_cases hlt : j < l.length
    · obtain ⟨b, off, rfl, hbl, hc⟩ := HC.out (by omega)
      obtain ⟨b', off', rfl, hbl', hc'⟩ := HC'.out (by omega)
      obtain ⟨c0, c1⟩ := hc j hlt
      obtain ⟨d0, d1⟩ := hc' j hlt
      have k0 := (hbel.cell (p := ⟨b, off + j * 2, none⟩) hbl).trans c0
      have k1 := (hbel.cell (p := ⟨b, off + j * 2 + 1, none⟩) hbl).trans c1
      have m0 := (hbel.cell (p := ⟨b', off' + j * 2, none⟩) hbl').trans d0
      have m1 := (hbel.cell (p := ⟨b', off' + j * 2 + 1, none⟩) hbl').trans d1
      generalize l[j] = x at *
      clear c0 c1 d0 d1 hc hc'
      go_wp2_with fail
      have h0 : (0 : Int) ≤ (j : Int) := by omega
      have h1 : (j : Int) < (l.length : Int) := by omega
      go_quiet (fail)
      go_wp2
      go_roundw
      case rel => exact ⟨j + 1, by omega, by go_num, below_drewN hbel _⟩
      case measure => simp [intOf]; omega
    · go_wp2
      go_ret
      exact ⟨rfl, hbel⟩
/-- Two rows that do not lie in one block. -/
def Apart (u v : Value) : Prop := ∀ g, u.ownBlock = some g → v.ownBlock ≠ some g

theorem Its.frame {S : Nat → Prop} {w w' : World} {v : Value} {l : List It} {base : Nat} (h : Qu w base v l) (hf : Fr S w w') (hS : ∀ g, v.ownBlock = some g → ¬ S g) : Its w' v l := (hf.qu h hS).its

theorem PushC.yes {w : World} {b base : Nat} {p h : ByteArray} {q : Value} {k : Int} {l : List It} {xk : Int} {xt : ByteArray} {c : Int} {w' : World} (hp : PushC w b base p h q k l xk xt c w') (h1 : 1 ≤ xk ∧ xk ≤ 3) (h2 : ((p.size + h.size + tot l + xt.size : Nat) : Int) ≤ k) :
    c = 0 ∧ ∃ q', St w' b base p h q' k (l ++ [(xk, xt)]) ∧ Fr (fun i => i = b ∨ q.ownBlock = some i) w w' ∧ (q'.ownBlock = q.ownBlock ∨ ∃ g, q'.ownBlock = some g ∧ w.heap.size ≤ g) := by
  rcases hp with ⟨h, _⟩ | ⟨_, h, _⟩ | ⟨_, _, hc, h⟩
  · exact absurd h1 h
  · omega
  · exact ⟨hc, h⟩
theorem PushC.bad {w : World} {b base : Nat} {p h : ByteArray} {q : Value} {k : Int} {l : List It} {xk : Int} {xt : ByteArray} {c : Int} {w' : World} (hp : PushC w b base p h q k l xk xt c w') (h1 : ¬ (1 ≤ xk ∧ xk ≤ 3)) :
    c = 2 ∧ Below w.heap.size w w' := by
  rcases hp with ⟨_, h⟩ | ⟨h, _⟩ | ⟨h, _⟩
  · exact h
  · exact absurd h h1
  · exact absurd h h1
theorem PushC.full {w : World} {b base : Nat} {p h : ByteArray} {q : Value} {k : Int} {l : List It} {xk : Int} {xt : ByteArray} {c : Int} {w' : World} (hp : PushC w b base p h q k l xk xt c w') (h1 : 1 ≤ xk ∧ xk ≤ 3) (h2 : k < ((p.size + h.size + tot l + xt.size : Nat) : Int)) :
    c = 180 ∧ Below w.heap.size w w' := by
  rcases hp with ⟨h, _⟩ | ⟨_, _, h⟩ | ⟨_, h, _⟩
  · exact absurd h1 h
  · exact h
  · omega

theorem Qu.lt {w : World} {base : Nat} {v : Value} {l : List It} (h : Qu w base v l) {g : Nat} (hg : v.ownBlock = some g) : base ≤ g ∧ g < w.heap.size := World.ownsRow.lt h g hg

theorem bel_push {w wr w2 : World} {B : Nat} {q : Value} {l : List It} (hbel : Below w.heap.size w wr) (hsz : w.heap.size ≤ B) (hq : Qu wr B q l) (hf : Fr (fun i => i = B ∨ q.ownBlock = some i) wr w2) : Below w.heap.size w w2 :=
  hbel.trans (hf.toBelow hbel.size (fun i _ hi => by
    rcases hi with rfl | hi
    · exact hsz
    · exact Nat.le_trans hsz (hq.lt hi).1))

/-- The row of the kept items, behind a push. -/
theorem in_push {wr w2 : World} {B : Nat} {p h : ByteArray} {k : Int} {q inv : Value} {acc : List It} (hs : Sp wr B p h q k) (hin : Qu wr B inv acc) (hap : Apart q inv) (hf : Fr (fun i => i = B ∨ q.ownBlock = some i) wr w2) : Qu w2 B inv acc :=
  hf.qu hin (fun i hi e => by
    rcases e with rfl | e
    · exact own_ne hs hin hi
    · exact hap i e hi)

theorem apart_push {wr w2 : World} {B : Nat} {q q' inv : Value} {acc : List It} (hin : Qu wr B inv acc) (hap : Apart q inv) (hat : q'.ownBlock = q.ownBlock ∨ ∃ g, q'.ownBlock = some g ∧ wr.heap.size ≤ g) : Apart q' inv := by
  intro g hg hi
  rcases hat with e | ⟨g', e, hge⟩
  · exact hap g (by rw [← e]; exact hg) hi
  · rw [e] at hg
    obtain rfl : g' = g := by simpa using hg
    have := (hin.lt hi).2
    omega

/-- What an append to the row of the kept items leaves. -/
theorem in_append {w2 w3 : World} {B g cap : Nat} {p h : ByteArray} {k : Int} {q inv : Value} {acc : List It} {l : List It} {xk : Int} {xt : ByteArray} (hs : St w2 B B p h q k l) (hin : Qu w2 B inv acc) (hap : Apart q inv)
    (hown : w3.ownsRow B 35 2 (.slice (some ⟨g, 0, none⟩) (acc.length + 1) cap) (acc.length + 1) (icells acc ++ [.int .u8 xk, .string xt])) (hgrow : (w2.alloc (.cells #[.int .u8 xk, .string xt] 35)).grownBy w3 inv.ownBlock) (hat : inv.ownBlock = some g ∨ g = w2.heap.size + 1) :
    St w3 B B p h q k l ∧ Qu w3 B (.slice (some ⟨g, 0, none⟩) (acc.length + 1) cap) (acc ++ [(xk, xt)]) ∧ Apart q (.slice (some ⟨g, 0, none⟩) (acc.length + 1) cap) ∧ Fr (fun i => inv.ownBlock = some i) w2 w3 := by
  have hf : Fr (fun i => inv.ownBlock = some i) w2 w3 := ((Fr.refl _ w2).alloc _).trans (Fr.ofGrown hgrow) (fun i _ hi => hi)
  refine ⟨⟨hf.sp hs.sp (own_ne hs.sp hin), hf.qu hs.qu (fun i hi e => hap i hi e), hs.inv, hs.kle, hs.len⟩, Qu.snoc rfl hown, ?_, hf⟩
  intro g' hg' e
  obtain rfl : g = g' := by simpa [Value.ownBlock] using e
  rcases hat with hat | hat
  · exact hap g hg' hat
  · have := (hs.qu.lt hg').2
    omega

theorem bel_append {w w2 w3 : World} {B : Nat} {inv : Value} {acc : List It} (hbel : Below w.heap.size w w2) (hsz : w.heap.size ≤ B) (hin : Qu w2 B inv acc) (hf : Fr (fun i => inv.ownBlock = some i) w2 w3) : Below w.heap.size w w3 :=
  hbel.trans (hf.toBelow hbel.size (fun i _ hi => Nat.le_trans hsz (hin.lt hi).1))

theorem Qu.over {w w' : World} {B base : Nat} {p h : ByteArray} {q : Value} {k : Int} {v : Value} {l : List It} (hv : Qu w base v l) (hs : Sp w B p h q k) (hf : Fr (fun i => i = B) w w') : Qu w' base v l :=
  hf.qu hv (fun i hi e => own_ne hs hv (by rw [hi, e]))
theorem St.empty {w : World} {B : Nat} (hs : Sp w B ⟨#[]⟩ ⟨#[]⟩ (.slice none 0 0) 1073741824) : St w B B ⟨#[]⟩ ⟨#[]⟩ (.slice none 0 0) 1073741824 [] :=
  ⟨hs, World.ownsRow_nil _ _ _ _, by rw [sz_nil]; simp [tot], by omega, by simp⟩
theorem sz_x : (⟨#[120]⟩ : ByteArray).size = 1 := rfl

set_option maxHeartbeats 12800000 in
theorem queue_any (v : Value) (l : List It) (w : World) (hv : Its w v l) (ht : ∀ x ∈ l, x.2.size ≤ 140737488355328 ∧ 0 ≤ x.1 ∧ x.1 ≤ 255) (hn : l.length * 24 ≤ 140737488351232) :
    Calls Try.prog 4 #[v] w fun e w' => e = .returned (.bool true) ∧ Below w.heap.size w w' := by
  obtain ⟨ao, cap, rfl, hc⟩ := hv.shape
  clear hv
  have HT := Lib.hid ht
  have HC := Lib.hid hc
  clear ht hc
  obtain ⟨i0, hi, hz0, hz1, hz2⟩ := info_parts Try.info35
  go_enter Try.func4, Try.ntmps4
  go_wp2_with (go_at_call 9; refine (begins_any _).mono ?_; rintro e w0 ⟨rfl, hb0⟩)
  refine (New_yes 1073741824 _ (by omega) (by omega)).mono ?_
  rintro e w1 ⟨rfl, s1, hb1⟩
  have hB1 : Below w.heap.size w w1 := bl_to hb0 hb1
  have hsz := hb0.size
  have hs1 := hb1.size
  have hbl := s1.sp.lt
  generalize w0.heap.size = B at *
  go_wp2_with fail
  go_loopw [5, 6] (fun sv i wr => ∃ (j : Nat) (acc : List It) (q inv : Value), inv = sv ∧ j ≤ l.length ∧ i = .int .i64 j ∧ acc.length ≤ j ∧ St wr B B ⟨#[]⟩ ⟨#[]⟩ q 1073741824 acc ∧ Qu wr B inv acc ∧ Apart q inv ∧ Below w.heap.size w wr) (fun _ i _ => l.length - (intOf i).toNat)
  case atStart => exact ⟨0, [], _, _, rfl, Nat.zero_le _, rfl, Nat.le_refl _, s1, World.ownsRow_nil _ _ _ _, fun g hg => by simp [Value.ownBlock] at hg, hB1⟩
  case round =>
    obtain ⟨j, acc, q, inv, rfl, hj, rfl, hacc, hs, hin, hap, hbel⟩ := hrel
    by_cases hlt : j < l.length
    · obtain ⟨b, off, rfl, hbl', hc⟩ := HC.out (by omega)
      obtain ⟨c0, c1⟩ := hc j hlt
      have htx := HT.out _ (List.getElem_mem hlt)
      have k0 := (hbel.cell (p := ⟨b, off + j * 2, none⟩) hbl').trans c0
      have k1 := (hbel.cell (p := ⟨b, off + j * 2 + 1, none⟩) hbl').trans c1
      generalize hx : l[j] = x at *
      obtain ⟨xk, xt⟩ := x
      simp only at *
      have HX := Lib.hid hx
      clear hx c0 c1 hc
      have hBle : B ≤ wr.heap.size := Nat.le_of_lt hs.sp.lt
      by_cases hgood : 1 ≤ xk ∧ xk ≤ 3
      · by_cases hfit : (((⟨#[]⟩ : ByteArray).size + (⟨#[]⟩ : ByteArray).size + tot acc + xt.size : Nat) : Int) ≤ 1073741824
        · go_wp2_with fail
          refine (Push_st B B _ _ q _ acc xk xt _ hs hBle (by omega) htx.1).mono ?_
          rintro e w2 ⟨c, rfl, hp⟩
          obtain ⟨rfl, q', hs2, hf2, hat2⟩ := hp.yes hgood hfit
          have hbel2 := bel_push hbel hsz hs.qu hf2
          have k0 := (hbel2.cell (p := ⟨b, off + j * 2, none⟩) hbl').trans ((hbel.cell (p := ⟨b, off + j * 2, none⟩) hbl').symm.trans k0)
          have k1 := (hbel2.cell (p := ⟨b, off + j * 2 + 1, none⟩) hbl').trans ((hbel.cell (p := ⟨b, off + j * 2 + 1, none⟩) hbl').symm.trans k1)
          have HIN := Lib.hid (in_push hs.sp hin hap hf2)
          have HAP := Lib.hid (apart_push (w2 := w2) hin hap hat2)
          have h63 : acc.length + 1 ≤ maxLen := by unfold maxLen; omega
          have hby : (acc.length + 1) * 24 ≤ 140737488355328 := by omega
          have hBs := hs2.sp.lt
          have HS2 := Lib.hid hs2
          clear hp hf2 hat2 hs hin hap hs2
          go_wp2_with (at_builtin; go_must (refine wpList_append_lies _ rfl (.tmp 36) (.tmp 41) 31 rfl B 35 i0 (.agg #[.int .u8 0, .string ⟨#[]⟩]) 2 24 Try.underlying31 hi hz0 hz1 hz2 rfl (by decide) inv acc.length (icells acc) rfl (Qu.alloc HIN.out _) ⟨w2.heap.size, 0, none⟩ 1 1 [.int .u8 xk, .string xt] rfl rfl (cells_two w2 _ _ 35) (by intro u hu; simp at hu; rcases hu with rfl | rfl <;> rfl) (by omega) h63 hby (by simp; omega) (w2.heap.size + 1) (by simp) ?_))
          intro g cap' w3 hown hgrow hat hltg
          have R := in_append HS2.out HIN.out HAP.out hown hgrow hat
          have HB3 := Lib.hid (bel_append hbel2 hsz HIN.out R.2.2.2)
          have HR := Lib.hid R
          clear R hown hgrow hat hltg k0 k1 hbel2
          go_wp2
          go_roundw
          case rel => exact ⟨j + 1, acc ++ [(xk, xt)], q', _, rfl, by omega, by go_num, by simp; omega, HR.out.1, HR.out.2.1, HR.out.2.2.1, HB3.out⟩
          case measure => simp [intOf]; omega
        · go_wp2_with fail
          refine (Push_st B B _ _ q _ acc xk xt _ hs hBle (by omega) htx.1).mono ?_
          rintro e w2 ⟨c, rfl, hp⟩
          obtain ⟨rfl, hb2⟩ := hp.full hgood (by omega)
          have k1 := bl_cell hb2 k1
          have HS2 := Lib.hid (hs.to hb2)
          have HIN2 := Lib.hid (bl_qu hb2 hin)
          have h0 : (0 : Int) ≤ (j : Int) := by omega
          have h1 : (j : Int) < (l.length : Int) := by omega
          clear hp hs hin k0
          have hw := wrap_in ((((⟨#[]⟩ : ByteArray).size + (⟨#[]⟩ : ByteArray).size + tot acc : Nat) : Int) + xt.size) (by have := HS2.out.inv; omega) (by have := HS2.out.inv; omega)
          have hgt : (1073741824 : Int) < (((⟨#[]⟩ : ByteArray).size + (⟨#[]⟩ : ByteArray).size + tot acc : Nat) : Int) + xt.size := by omega
          have hu : ((⟨#[]⟩ : ByteArray).size + (⟨#[]⟩ : ByteArray).size + tot acc : Nat) ≤ 4611686018427387904 := by have := HS2.out.inv; omega
          have hal : acc.length ≤ 4611686018427387904 := by omega
          clear hfit
          generalize hU : ((⟨#[]⟩ : ByteArray).size + (⟨#[]⟩ : ByteArray).size + tot acc : Nat) = U at *
          have HU := Lib.hid hU
          clear hU
          go_wp2_with fail
          go_region_held3 (fun w' => w'.cell? ⟨b, off + j * 2 + 1, none⟩ = some (.string xt) ∧ Below w2.heap.size w2 w') (first | exact ⟨by simpa using k1, (Below.refl _ _).drew⟩ | exact S_next (by assumption) hb3)
            (first | (go_at_call 19; (refine (Used_any B B ⟨#[]⟩ ⟨#[]⟩ q 1073741824 acc _ ?_ ?_ ?_ hal).mono ?_); (exact bl_sp (And.right (by assumption)) HS2.out.sp); (exact bl_qu (And.right (by assumption)) HS2.out.qu); (rw [HU.out]; exact hu); rw [HU.out]; rintro e w3 ⟨rfl, hb3⟩))
          clear hw
          have hb23 := And.right (‹w3.cell? ⟨b, off + j * 2 + 1, none⟩ = some (.string xt) ∧ Below w2.heap.size w2 w3›)
          go_wp2
          go_roundw
          case rel => exact ⟨j + 1, acc, q, inv, rfl, by omega, by go_num, by omega, HS2.out.to hb23, bl_qu hb23 HIN2.out, hap, bl_to (bl_to hbel hb2) hb23⟩
          case measure => simp [intOf]; omega
      · go_wp2_with fail
        refine (Push_st B B _ _ q _ acc xk xt _ hs hBle (by omega) htx.1).mono ?_
        rintro e w2 ⟨c, rfl, hp⟩
        obtain ⟨rfl, hb2⟩ := hp.bad hgood
        have HS2 := Lib.hid (hs.to hb2)
        have HIN2 := Lib.hid (bl_qu hb2 hin)
        clear hp hs hin k0 k1
        go_wp2_with fail
        go_quiet (fail)
        go_wp2
        go_roundw
        case rel => exact ⟨j + 1, acc, q, inv, rfl, by omega, by go_num, by omega, HS2.out.to (below_drewN (Below.refl _ _) _), bl_qu (below_drewN (Below.refl _ _) _) HIN2.out, hap, below_drewN (bl_to hbel hb2) _⟩
        case measure => simp [intOf]; omega
    · obtain ⟨wo, rfl⟩ : ∃ wo : World, wo = wr := ⟨_, rfl⟩
      have hal : acc.length ≤ 4611686018427387904 := by omega
      have han : acc.length * 24 ≤ 140737488351232 := by omega
      have HS := Lib.hid hs
      have HIN := Lib.hid hin
      have HAP := Lib.hid hap
      clear hs hin hap
      go_wp2_with fail
      refine (Queue_st B B _ _ q _ acc _ HS.out).mono ?_
      rintro e w4 ⟨av, rfl, hqa, hb4⟩
      have HQA := Lib.hid hqa
      clear hqa
      go_wp2_with fail
      refine (Queue_st B B _ _ q _ acc _ (HS.out.to hb4)).mono ?_
      rintro e w5 ⟨bv, rfl, hqb, hb5⟩
      have HQB := Lib.hid hqb
      clear hqb
      have HQA5 := Lib.hid (bl_qu hb5 HQA.out)
      obtain ⟨ag, acap, rfl, hash⟩ := HQA5.out.shape
      have HASH := Lib.hid hash
      clear hash
      have hb45 := hb5.size
      have hb34 := hb4.size
      go_wp2_with fail
      go_loopw [10] (fun i wr2 => ∃ (j2 : Nat) (xs : List Value), j2 ≤ acc.length ∧ i = .int .i64 j2 ∧ wr2.ownsRow wo.heap.size 35 2 (.slice ag acc.length acap) acc.length xs ∧ Fr (fun k => (Value.slice ag acc.length acap).ownBlock = some k) w5 wr2) (fun i _ => acc.length - (intOf i).toNat)
      case atStart => exact ⟨0, _, Nat.zero_le _, rfl, HQA5.out, Fr.refl _ _⟩
      case round =>
        obtain ⟨j2, xs, hj2, rfl, hox, hfx⟩ := hrel
        by_cases hlt2 : j2 < acc.length
        · obtain ⟨g, rfl, hg1, hg2, _⟩ := HASH.out (by omega)
          have x0 : ∃ u0, wr.cell? ⟨g, j2 * 2, none⟩ = some u0 := by
            rw [World.ownsRow.cellAt hox _ (by omega)]
            exact ⟨_, List.getElem?_eq_getElem (by rw [hox.1]; omega)⟩
          have x1 : ∃ u0, wr.cell? ⟨g, j2 * 2 + 1, none⟩ = some u0 := by
            rw [World.ownsRow.cellAt hox _ (by omega)]
            exact ⟨_, List.getElem?_eq_getElem (by rw [hox.1]; omega)⟩
          obtain ⟨x0, hx0⟩ := x0
          obtain ⟨x1, hx1⟩ := x1
          have f0 := World.ownsRow.frozenAt hox (j2 * 2)
          have f1 := World.ownsRow.frozenAt hox (j2 * 2 + 1)
          have HOX := Lib.hid hox
          have HFX := Lib.hid hfx
          clear hox hfx
          go_wp2
          go_roundw
          case rel => exact ⟨j2 + 1, _, by omega, by go_num, (World.ownsRow.stored (World.ownsRow.stored HOX.out _ _).1 _ _).1, Fr.setCell (p := ⟨g, j2 * 2 + 1, none⟩) (Fr.setCell (p := ⟨g, j2 * 2, none⟩) HFX.out rfl _) rfl _⟩
          case measure => simp [intOf]; omega
        · have hoxa := hox.alloc (.cells #[.int .u8 0, .string ⟨#[]⟩] 35)
          have HOX := Lib.hid hoxa
          have HFX := Lib.hid hfx
          have h63 : acc.length + 1 ≤ maxLen := by unfold maxLen; omega
          have hby : (acc.length + 1) * 24 ≤ 140737488355328 := by omega
          have hws : wo.heap.size ≤ wr.heap.size := by have := hfx.size; omega
          clear hox hfx hoxa
          go_wp2_with (at_builtin; go_must (refine wpList_append_lies _ rfl (.tmp 76) (.tmp 78) 31 rfl wo.heap.size 35 i0 (.agg #[.int .u8 0, .string ⟨#[]⟩]) 2 24 Try.underlying31 hi hz0 hz1 hz2 rfl (by decide) (.slice ag acc.length acap) acc.length xs rfl HOX.out ⟨wr.heap.size, 0, none⟩ 1 1 [.int .u8 0, .string ⟨#[]⟩] rfl rfl (cells_two wr _ _ 35) (by intro u hu; simp at hu; rcases hu with rfl | rfl <;> rfl) (by omega) h63 hby (by simp; omega) (wr.heap.size + 1) (by simp) ?_))
          intro g2 cap2 w6 hown6 hgrow6 hat6 hlt6
          have hf6 : Fr (fun k => (Value.slice ag acc.length acap).ownBlock = some k) w5 w6 := (HFX.out.alloc _).trans (Fr.ofGrown hgrow6) (fun i _ hi => hi)
          have hS : ∀ k, (Value.slice ag acc.length acap).ownBlock = some k → wo.heap.size ≤ k ∧ k < w4.heap.size := fun k hk => HQA.out.lt hk
          have s5 := (HS.out.to hb4).to hb5
          have hs6 : St w6 B B ⟨#[]⟩ ⟨#[]⟩ q 1073741824 acc := ⟨hf6.sp s5.sp (fun e => by have := hS _ e; have := HS.out.sp.lt; omega), hf6.qu s5.qu (fun i hi e => by have := hS _ e; have := (HS.out.qu.lt hi).2; omega), s5.inv, s5.kle, s5.len⟩
          have hin6 : Qu w6 B inv acc := hf6.qu (bl_qu hb5 (bl_qu hb4 HIN.out)) (fun i hi e => by have := hS _ e; have := (HIN.out.lt hi).2; omega)
          have hqb6 : Qu w6 w4.heap.size bv acc := hf6.qu HQB.out (fun i hi e => by have := hS _ e; have := (HQB.out.lt hi).1; omega)
          have hbel6 : Below w.heap.size w w6 := (bl_to (bl_to hbel hb4) hb5).trans (hf6.toBelow (by have := hbel.size; omega) (fun i _ hi => by have := hS _ hi; have := hbel.size; omega))
          have HS6 := Lib.hid hs6
          have HIN6 := Lib.hid hin6
          have HQB6 := Lib.hid hqb6
          have HBEL6 := Lib.hid hbel6
          clear hown6 hgrow6 hat6 hlt6 hf6 hS s5 hs6 hin6 hqb6 hbel6 HOX HFX HASH HQA HQA5 HQB hb4 hb5 hb45 hb34
          go_wp2_with fail
          refine (Same_yes bv inv acc _ HQB6.out.its HIN6.out.its hal).mono ?_
          rintro e w7 ⟨rfl, hb7⟩
          go_wp2_with fail
          refine (Queue_st B B _ _ q _ acc _ (HS6.out.to hb7)).mono ?_
          rintro e w8 ⟨cv, rfl, hqc, hb8⟩
          have HQC := Lib.hid hqc
          clear hqc
          go_wp2_with fail
          refine (Same_yes cv inv acc _ HQC.out.its ((HIN6.out.its.to hb7).to hb8) hal).mono ?_
          rintro e w9 ⟨rfl, hb9⟩
          have HB9 := Lib.hid (bl_to (bl_to hb7 hb8) hb9)
          clear hb7 hb8 hb9 HQC
          go_wp2_with fail
          have HS9 := Lib.hid (HS6.out.to HB9.out)
          have HIN9 := Lib.hid (bl_qu HB9.out HIN6.out)
          have HQB9 := Lib.hid (bl_qu HB9.out HQB6.out)
          refine (Take_st B B _ _ q _ acc _ HS9.out).mono ?_
          rintro e w10 ⟨rfl, hsp10, hf10⟩
          have HSP10 := Lib.hid hsp10
          have HF10 := Lib.hid hf10
          have HQ10 := Lib.hid (HS9.out.qu.over HS9.out.sp hf10)
          have HIN10 := Lib.hid (HIN9.out.over HS9.out.sp hf10)
          have HQB10 := Lib.hid (HQB9.out.over HS9.out.sp hf10)
          clear hsp10 hf10
          go_wp2_with fail
          refine (Take_st B B _ _ _ _ [] _ (St.empty HSP10.out)).mono ?_
          rintro e w11 ⟨rfl, hsp11, hf11⟩
          have HSP11 := Lib.hid hsp11
          have HF11 := Lib.hid hf11
          have HQ11 := Lib.hid (HQ10.out.over HSP10.out hf11)
          have HIN11 := Lib.hid (HIN10.out.over HSP10.out hf11)
          have HQB11 := Lib.hid (HQB10.out.over HSP10.out hf11)
          clear hsp11 hf11
          go_wp2_with fail
          refine (Same_yes q inv acc _ HQ11.out.its HIN11.out.its hal).mono ?_
          rintro e w12 ⟨rfl, hb12⟩
          have HB12 := Lib.hid hb12
          clear hb12
          go_wp2_with fail
          refine (Used_any B B _ _ _ _ [] _ (bl_sp HB12.out HSP11.out) (World.ownsRow_nil _ _ _ _) (by rw [sz_nil]; simp [tot]) (by simp)).mono ?_
          rintro e w13 ⟨rfl, hb13⟩
          rw [show (((⟨#[]⟩ : ByteArray).size + (⟨#[]⟩ : ByteArray).size + tot [] : Nat) : Int) = 0 from rfl]
          have HB13 := Lib.hid (bl_to HB12.out hb13)
          clear hb13
          go_wp2_with fail
          refine (Push_st B B _ _ _ _ [] 1 ⟨#[120]⟩ _ (St.empty (bl_sp HB13.out HSP11.out)) (Nat.le_of_lt (bl_sp HB13.out HSP11.out).lt) (by simp) (by rw [sz_x]; omega)).mono ?_
          rintro e w14 ⟨c, rfl, hp⟩
          obtain ⟨rfl, q', hs14, hf14, _⟩ := hp.yes (by omega) (by rw [sz_nil, sz_x]; simp [tot])
          have hf14' : Fr (fun i => i = B) w13 w14 := hf14.mono (fun i _ hi => by rcases hi with hi | hi; exact hi; simp [Value.ownBlock] at hi)
          have HQ14 := Lib.hid ((bl_qu HB13.out HQ11.out).over (bl_sp HB13.out HSP11.out) hf14').its
          have HIN14 := Lib.hid ((bl_qu HB13.out HIN11.out).over (bl_sp HB13.out HSP11.out) hf14').its
          have HQB14 := Lib.hid ((bl_qu HB13.out HQB11.out).over (bl_sp HB13.out HSP11.out) hf14').its
          have HBEL14 := Lib.hid (Fr.at (bl_to (Fr.at (Fr.at (bl_to HBEL6.out HB9.out) HF10.out (by have := HBEL6.out.size; have := HB9.out.size; omega) hsz) HF11.out (by have := HBEL6.out.size; have := HB9.out.size; have := HF10.out.size; omega) hsz) HB13.out) hf14' (by have := HBEL6.out.size; have := HB9.out.size; have := HF10.out.size; have := HF11.out.size; have := HB13.out.size; omega) hsz)
          clear hp hs14 hf14 hf14'
          go_wp2_with fail
          refine (Same_yes q inv acc _ HQ14.out HIN14.out hal).mono ?_
          rintro e w15 ⟨rfl, hb15⟩
          go_wp2_with fail
          refine (Same_yes bv inv acc _ (HQB14.out.to hb15) (HIN14.out.to hb15) hal).mono ?_
          rintro e w16 ⟨rfl, hb16⟩
          have HBEL16 := Lib.hid (bl_to (bl_to HBEL14.out hb15) hb16)
          obtain ⟨io, icap, rfl, _⟩ := HIN6.out.shape
          go_wp2_with fail
          go_ret
          exact ⟨rfl, HBEL16.out⟩
end Go.Proofs.Ytbhepdlcnfcfgaa
