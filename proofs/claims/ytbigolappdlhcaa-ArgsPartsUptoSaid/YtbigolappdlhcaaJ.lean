/- What Print writes; the reference's Print. -/
import Derived.Test.YtbigolappdlhcaaI
import Derived.Laws.AppendOwnNone
namespace Go.Proofs.Ytbigolappdlhcaa
set_option linter.unusedSimpArgs false
set_option linter.unusedVariables false
open Go.RowKit

def optL (q e si i : Bool) (suf : ByteArray) : List ByteArray :=
  (if q then [⟨#[45, 110]⟩] else []) ++ ((if e then [⟨#[45, 69]⟩] else []) ++ ((if si then [⟨#[45, 115]⟩] else []) ++ (if i then [⟨#[45, 105]⟩ ++ suf] else [])))
def pieceL (l : List Pc) : List ByteArray := l.flatMap fun p => [if p.1 then ⟨#[45, 102]⟩ else ⟨#[45, 101]⟩, p.2]
def dashes : ByteArray := ⟨#[45, 45]⟩
/-- All arguments that a command line is written as. -/
def printL (a : Av) : List ByteArray := optL a.q a.e (a.s && !a.i) a.i a.suf ++ (pieceL a.scr ++ (dashes :: a.nam))
/-- What Print answers. -/
def printP (a : Av) : List ByteArray × Int := if rightB a = false then ([], 260) else if 65536 < (printL a).length then ([], 3) else (printL a, 0)

/-- A row of texts of one's own. -/
def Out (w : World) (base : Nat) (v : Value) (l : List ByteArray) : Prop := w.ownsRow base 9 1 v l.length (l.map Value.string)
theorem Out.nil (w : World) (base : Nat) : Out w base (.slice none 0 0) [] := World.ownsRow_nil _ _ _ _
theorem Out.to {w w1 : World} {base : Nat} {v : Value} {l : List ByteArray} (h : Out w base v l) (hb : Below w.heap.size w w1) : Out w1 base v l := row_to hb h
theorem Out.more {w : World} {base : Nat} {v : Value} {l m : List ByteArray} {n : Nat} (hn : n = (l ++ m).length) (h : w.ownsRow base 9 1 v n (l.map Value.string ++ m.map Value.string)) : Out w base v (l ++ m) := by
  subst hn
  unfold Out
  rw [List.map_append]
  exact h
def PrintPost (w : World) (a : Av) (e : Ending) (w' : World) : Prop := ∃ v, e = .returned (.tuple #[v, .int .i64 (printP a).2]) ∧ Out w' w.heap.size v (printP a).1 ∧ Below w.heap.size w w'

theorem pieceL_length (l : List Pc) : (pieceL l).length = 2 * l.length := by
  induction l with
  | nil => rfl
  | cons x r ih => simp only [pieceL, List.flatMap_cons, List.length_append] at *; simp [ih]; omega
theorem pieceL_snoc (l : List Pc) (k : Nat) (h : k < l.length) : pieceL (l.take (k + 1)) = pieceL (l.take k) ++ [if l[k].1 then ⟨#[45, 102]⟩ else ⟨#[45, 101]⟩, l[k].2] := by
  rw [take_snoc _ _ h, pieceL, List.flatMap_append]; simp [pieceL]
theorem optL_le (q e si i : Bool) (suf : ByteArray) : (optL q e si i suf).length ≤ 4 := by
  unfold optL; cases q <;> cases e <;> cases si <;> cases i <;> simp

/-- The state between two appends. -/
def PO (W1 : World) (l : List ByteArray) (v : Value) (wx : World) : Prop := Out wx W1.heap.size v l ∧ Below W1.heap.size W1 wx
theorem PO.grow {W1 wx W w2 : World} {l m : List ByteArray} {v v' : Value} {n : Nat} (h : PO W1 l v wx) (hn : n = (l ++ m).length) (hW : Below wx.heap.size wx W) (hg : W.grownBy w2 v.ownBlock) (ho : w2.ownsRow W1.heap.size 9 1 v' n (l.map Value.string ++ m.map Value.string)) : PO W1 (l ++ m) v' w2 := by
  refine ⟨Out.more hn ho, h.2.trans ?_⟩
  have hf : Fr (fun i => v.ownBlock = some i) wx w2 := (Fr.ofBelow (fun i => v.ownBlock = some i) hW).trans (Fr.ofGrown hg) (fun i _ hi => hi)
  exact hf.toBelow h.2.size (fun i _ hi => (World.ownsRow.lt h.1 i hi).1)

set_option maxRecDepth 8000 in
set_option maxHeartbeats 6400000 in
theorem rprint_core (q e s i : Bool) (suf : ByteArray) (c : List Pc) (n : List ByteArray) (ao : Option Addr) (cap : Nat) (ao' : Option Addr) (cap' : Nat) (w : World)
    (HS : Hid (Sx w (.slice ao c.length cap) c)) (HN : Hid (Tx w (.slice ao' n.length cap') n)) (hr : rightB ⟨q, e, s, i, suf, c, n⟩ = true) (h1 : c.length ≤ 4611686018427387) (h2 : n.length ≤ 4611686018427387) (hsz : suf.size ≤ 255) (hnz : ao' = none → cap' = 0) :
    Calls Try.prog 14 #[.agg #[.bool q, .bool e, .bool s, .bool i, .string suf, .slice ao c.length cap, .slice ao' n.length cap']] w (PrintPost w ⟨q, e, s, i, suf, c, n⟩) := by
  have HR := Lib.hid (fun W (hx : Ax W (.agg #[.bool q, .bool e, .bool s, .bool i, .string suf, .slice ao c.length cap, .slice ao' n.length cap']) ⟨q, e, s, i, suf, c, n⟩) => rright_any _ _ W hx)
  rw [hr] at HR
  have HRT := Lib.hid hr
  clear hr
  have HA : Hid ((w.alloc (.cells #[.bool q, .bool e, .bool s, .bool i, .string suf, .slice ao c.length cap, .slice ao' n.length cap'] 27)).heap[w.heap.size]? = some (.cells #[.bool q, .bool e, .bool s, .bool i, .string suf, .slice ao c.length cap, .slice ao' n.length cap'] 27 (0, 0))) := heap_alloc_new w _
  have HW := Lib.hid (bl_alloc w (.cells #[.bool q, .bool e, .bool s, .bool i, .string suf, .slice ao c.length cap, .slice ao' n.length cap'] 27))
  have hw1 : (w.alloc (.cells #[.bool q, .bool e, .bool s, .bool i, .string suf, .slice ao c.length cap, .slice ao' n.length cap'] 27)).heap.size = w.heap.size + 1 := by simp
  have HW1 := Lib.hid hw1
  clear hw1
  obtain ⟨i9, hi9, hz90, hz91, hz92⟩ := info_parts info9
  go_enter Try.func14, Try.ntmps14
  go_wp2_with fail
  refine (HR.out _ ⟨_, _, rfl, HS.out.to HW.out, HN.out.to HW.out⟩).mono ?_
  rintro e1 w1 ⟨rfl, hb1⟩
  generalize (w.alloc (.cells #[.bool q, .bool e, .bool s, .bool i, .string suf, .slice ao c.length cap, .slice ao' n.length cap'] 27)) = W1 at *
  have hbox := (hb1.block w.heap.size (by rw [HW1.out]; omega)).trans HA.out
  have c0 := (blk_at hbox 0 (v := .bool q) rfl).1
  have P0 : Hid (PO W1 [] (.slice none 0 0) w1) := ⟨Out.nil _ _, hb1⟩
  clear hb1 hbox HR
  have L0 : Hid (([] : List ByteArray).length = 0) := rfl
  go_upto_if 13 with (fail)
  go_cut [5] (fun s5 wx => ∃ v, v = s5 ∧ PO W1 (if q then [⟨#[45, 110]⟩] else []) v wx)
  case first =>
    cases q
    · go_wp2_with fail
      go_meet
      case rel => exact ⟨_, rfl, P0.out⟩
    · have hs1 := P0.out.2.size
      go_wp2_with (at_builtin; go_must (refine wpList_append_lies _ rfl (.tmp 14) (.tmp 15) 25 rfl W1.heap.size 9 i9 (.string ⟨#[]⟩) 1 16 Try.underlying25 hi9 hz90 hz91 hz92 rfl (by decide) (.slice none 0 0) 0 [] rfl (row_to (bl_alloc w1 _) P0.out.1) ⟨w1.heap.size, 0, none⟩ 1 1 [.string ⟨#[45, 110]⟩] rfl rfl (cells_one w1 _ _) (by intro u hu; simp at hu; rcases hu with rfl; rfl) (by omega) (by unfold maxLen; omega) (by omega) (by simp; omega) (w1.heap.size + 1) (by simp) ?_))
      intro g2 cap2 w2 hown hgrow hat hlt2
      have P1 := Lib.hid (PO.grow (l := []) (m := [⟨#[45, 110]⟩]) P0.out rfl (bl_alloc w1 _) hgrow hown)
      clear hown hgrow hat hlt2
      go_wp2_with fail
      go_meet
      case rel => exact ⟨_, rfl, P1.out⟩
  case rest =>
    obtain ⟨v1, rfl, p1⟩ := hcut
    have hbox := (p1.2.block w.heap.size (by rw [HW1.out]; omega)).trans HA.out
    have c1 := (blk_at hbox 1 (v := .bool e) rfl).1
    have P1 := Lib.hid p1
    obtain ⟨l1, HL1⟩ : ∃ l1 : List ByteArray, Hid ((if q then [(⟨#[45, 110]⟩ : ByteArray)] else []) = l1) := ⟨_, rfl⟩
    have hl1 : l1.length ≤ 1 := by rw [← HL1.out]; cases q <;> simp
    rw [HL1.out] at P1
    clear P0 hbox c0 p1
    go_upto_if 19 with (fail)
    go_cut [5] (fun s5 wx => ∃ v, v = s5 ∧ PO W1 (l1 ++ if e then [⟨#[45, 69]⟩] else []) v wx)
    case first =>
      cases e
      · go_wp2_with fail
        go_meet
        case rel => exact ⟨_, rfl, by rw [if_neg (by simp), List.append_nil]; exact P1.out⟩
      · have hs1 := P1.out.2.size
        go_wp2_with (at_builtin; go_must (refine wpList_append_lies _ rfl (.tmp 20) (.tmp 21) 25 rfl W1.heap.size 9 i9 (.string ⟨#[]⟩) 1 16 Try.underlying25 hi9 hz90 hz91 hz92 rfl (by decide) v1 l1.length (l1.map Value.string) rfl (row_to (bl_alloc wc _) P1.out.1) ⟨wc.heap.size, 0, none⟩ 1 1 [.string ⟨#[45, 69]⟩] rfl rfl (cells_one wc _ _) (by intro u hu; simp at hu; rcases hu with rfl; rfl) (by omega) (by unfold maxLen; omega) (by omega) (by simp; omega) (wc.heap.size + 1) (by simp) ?_))
        intro g2 cap2 w2 hown hgrow hat hlt2
        have P2 := Lib.hid (PO.grow (l := l1) (m := [⟨#[45, 69]⟩]) P1.out (by simp) (bl_alloc wc _) hgrow hown)
        clear hown hgrow hat hlt2
        go_wp2_with fail
        go_meet
        case rel => exact ⟨_, rfl, P2.out⟩
    case rest =>
      obtain ⟨v2, rfl, p2⟩ := hcut
      have hbox := (p2.2.block w.heap.size (by rw [HW1.out]; omega)).trans HA.out
      have c2 := (blk_at hbox 2 (v := .bool s) rfl).1
      have c3 := (blk_at hbox 3 (v := .bool i) rfl).1
      have P2 := Lib.hid p2
      obtain ⟨l2, HL2⟩ : ∃ l2 : List ByteArray, Hid ((l1 ++ if e then [(⟨#[45, 69]⟩ : ByteArray)] else []) = l2) := ⟨_, rfl⟩
      have hl2 : l2.length ≤ 2 := by rw [← HL2.out, List.length_append]; cases e <;> simp <;> omega
      rw [HL2.out] at P2
      clear P1 hbox c1 p2
      go_upto_region 9 with (fail)
      go_cut [31] (fun s31 wx => s31 = .bool (s && !i) ∧ wx = wc)
      case first =>
        cases s <;> cases i
        all_goals
          go_wp2_with fail
          go_meet
          case rel => exact ⟨rfl, rfl⟩
      case rest =>
        obtain ⟨rfl, rfl⟩ := hcut
        obtain ⟨si, HSI⟩ : ∃ si, Hid ((s && !i) = si) := ⟨_, rfl⟩
        rw [HSI.out]
        clear c2
        go_upto_if 31 with (fail)
        go_cut [5] (fun s5 wx => ∃ v, v = s5 ∧ PO W1 (l2 ++ if si then [⟨#[45, 115]⟩] else []) v wx)
        case first =>
          cases si
          · go_wp2_with fail
            go_meet
            case rel => exact ⟨_, rfl, by rw [if_neg (by simp), List.append_nil]; exact P2.out⟩
          · have hs1 := P2.out.2.size
            go_wp2_with (at_builtin; go_must (refine wpList_append_lies _ rfl (.tmp 32) (.tmp 33) 25 rfl W1.heap.size 9 i9 (.string ⟨#[]⟩) 1 16 Try.underlying25 hi9 hz90 hz91 hz92 rfl (by decide) v2 l2.length (l2.map Value.string) rfl (row_to (bl_alloc wc _) P2.out.1) ⟨wc.heap.size, 0, none⟩ 1 1 [.string ⟨#[45, 115]⟩] rfl rfl (cells_one wc _ _) (by intro u hu; simp at hu; rcases hu with rfl; rfl) (by omega) (by unfold maxLen; omega) (by omega) (by simp; omega) (wc.heap.size + 1) (by simp) ?_))
            intro g2 cap2 w2 hown hgrow hat hlt2
            have P3 := Lib.hid (PO.grow (l := l2) (m := [⟨#[45, 115]⟩]) P2.out (by simp) (bl_alloc wc _) hgrow hown)
            clear hown hgrow hat hlt2
            go_wp2_with fail
            go_meet
            case rel => exact ⟨_, rfl, P3.out⟩
        case rest =>
          obtain ⟨v3, rfl, p3⟩ := hcut
          have hbox := (p3.2.block w.heap.size (by rw [HW1.out]; omega)).trans HA.out
          have c3 := (blk_at hbox 3 (v := .bool i) rfl).1
          have c4 := (blk_at hbox 4 (v := .string suf) rfl).1
          have P3 := Lib.hid p3
          obtain ⟨l3, HL3⟩ : ∃ l3 : List ByteArray, Hid ((l2 ++ if si then [(⟨#[45, 115]⟩ : ByteArray)] else []) = l3) := ⟨_, rfl⟩
          have hl3 : l3.length ≤ 3 := by rw [← HL3.out, List.length_append]; cases si <;> simp <;> omega
          rw [HL3.out] at P3
          clear P2 hbox p3
          go_upto_if 37 with (fail)
          go_cut [5] (fun s5 wx => ∃ v, v = s5 ∧ PO W1 (l3 ++ if i then [⟨#[45, 105]⟩ ++ suf] else []) v wx)
          case first =>
            cases i
            · go_wp2_with fail
              go_meet
              case rel => exact ⟨_, rfl, by rw [if_neg (by simp), List.append_nil]; exact P3.out⟩
            · have hs1 := P3.out.2.size
              go_wp2_with (at_builtin; go_must (refine wpList_append_lies _ rfl (.tmp 38) (.tmp 43) 25 rfl W1.heap.size 9 i9 (.string ⟨#[]⟩) 1 16 Try.underlying25 hi9 hz90 hz91 hz92 rfl (by decide) v3 l3.length (l3.map Value.string) rfl (row_to (bl_alloc wc _) P3.out.1) ⟨wc.heap.size, 0, none⟩ 1 1 [.string (⟨#[45, 105]⟩ ++ suf)] rfl rfl (cells_one wc _ _) (by intro u hu; simp at hu; rcases hu with rfl; rfl) (by omega) (by unfold maxLen; omega) (by omega) (by simp; omega) (wc.heap.size + 1) (by simp) ?_))
              intro g2 cap2 w2 hown hgrow hat hlt2
              have P4 := Lib.hid (PO.grow (l := l3) (m := [⟨#[45, 105]⟩ ++ suf]) P3.out (by simp) (bl_alloc wc _) hgrow hown)
              clear hown hgrow hat hlt2
              go_wp2_with fail
              go_meet
              case rel => exact ⟨_, rfl, P4.out⟩
          case rest =>
            obtain ⟨v4, rfl, p4⟩ := hcut
            have hbox := (p4.2.block w.heap.size (by rw [HW1.out]; omega)).trans HA.out
            have c5 := (blk_at hbox 5 (v := .slice ao c.length cap) rfl).1
            have c6 := (blk_at hbox 6 (v := .slice ao' n.length cap') rfl).1
            have P4 := Lib.hid p4
            obtain ⟨l4, HL4⟩ : ∃ l4 : List ByteArray, Hid ((l3 ++ if i then [(⟨#[45, 105]⟩ : ByteArray) ++ suf] else []) = l4) := ⟨_, rfl⟩
            have hl4 : l4.length ≤ 4 := by rw [← HL4.out, List.length_append]; cases i <;> simp <;> omega
            have HOPT : Hid (optL q e (s && !i) i suf = l4) := by show _ = _; rw [← HL4.out, ← HL3.out, ← HL2.out, ← HL1.out, HSI.out]; unfold optL; simp
            have HLEN : Hid ((printL ⟨q, e, s, i, suf, c, n⟩).length = l4.length + 2 * c.length + 1 + n.length) := by
              show _ = _
              unfold printL
              simp only [List.length_append, List.length_cons, pieceL_length]
              rw [HOPT.out]; omega
            rw [HL4.out] at P4
            clear P3 hbox p4
            by_cases hbig : 65536 < l4.length + 2 * c.length + 1 + n.length
            · have hbz : (65536 : Int) < (l4.length : Int) + 2 * (c.length : Int) + 1 + (n.length : Int) := by omega
              have HPP : Hid (printP ⟨q, e, s, i, suf, c, n⟩ = ([], 3)) := by
                show _ = _
                unfold printP
                rw [HRT.out, if_neg (by simp), if_pos (by rw [HLEN.out]; exact hbig)]
              obtain ⟨o4, cc4, rfl⟩ := row_slice P4.out.1
              clear hbig
              go_wp2_with fail
              go_ret2
              exact ⟨.slice none 0 0, by rw [HPP.out]; rfl, by rw [HPP.out]; exact Out.nil _ _, HW.out.trans (P4.out.2.mono (by rw [HW1.out]; omega))⟩
            · have hbz : ¬ (65536 : Int) < (l4.length : Int) + 2 * (c.length : Int) + 1 + (n.length : Int) := by omega
              have HPP : Hid (printP ⟨q, e, s, i, suf, c, n⟩ = (l4 ++ (pieceL c ++ (dashes :: n)), 0)) := by
                show _ = _
                unfold printP
                rw [HRT.out, if_neg (by simp), if_neg (by rw [HLEN.out]; exact hbig)]
                unfold printL
                rw [← HOPT.out]
              obtain ⟨o4, cc4, rfl⟩ := row_slice P4.out.1
              go_wp2_with fail
              obtain ⟨v0, hv0⟩ : ∃ v0, v0 = Value.slice o4 l4.length cc4 := ⟨_, rfl⟩
              rw [← hv0] at P4 ⊢
              clear hv0 c5 c6 c3 c4
              go_loopw [5, 6] (fun s5 i6 wx => ∃ k v, v = s5 ∧ k ≤ c.length ∧ i6 = .int .i64 ((k : Nat) : Int) ∧ PO W1 (l4 ++ pieceL (c.take k)) v wx) (fun _ i6 _ => c.length - (intOf i6).toNat)
              case atStart => exact ⟨0, v0, rfl, Nat.zero_le _, rfl, by simpa [pieceL] using P4.out⟩
              case round =>
                obtain ⟨k, v, rfl, hk, rfl, po⟩ := hrel
                clear P4
                have hbox := (po.2.block w.heap.size (by rw [HW1.out]; omega)).trans HA.out
                have hwb := HW.out.trans (po.2.mono (by rw [HW1.out]; omega))
                have c5 := (blk_at hbox 5 (v := .slice ao c.length cap) rfl).1
                have c6 := (blk_at hbox 6 (v := .slice ao' n.length cap') rfl).1
                have hws := po.2.size
                by_cases hlt : k < c.length
                · obtain ⟨_, _, e1, hc1⟩ := HS.out
                  simp only [Value.slice.injEq, true_and] at e1
                  obtain ⟨rfl, rfl⟩ := e1
                  obtain ⟨b, off, rfl, hbl, hc⟩ := hc1 (by omega)
                  have hce := hc k hlt
                  have hpn := pieceL_snoc c k hlt
                  have hpl := pieceL_length (c.take k)
                  rw [List.length_take, Nat.min_eq_left (Nat.le_of_lt hlt)] at hpl
                  obtain ⟨x, hx⟩ : ∃ x, c[k] = x := ⟨_, rfl⟩
                  rw [hx] at hce hpn
                  obtain ⟨xb, xt⟩ := x
                  simp only at hce hpn
                  have d0 := (hwb.cell (p := ⟨b, off + k * 2, none⟩) hbl).trans hce.1
                  have d1 := (hwb.cell (p := ⟨b, off + k * 2 + 1, none⟩) hbl).trans hce.2
                  have hk0 : (0 : Int) ≤ (k : Int) := by omega
                  have hk1 : (k : Int) < (c.length : Int) := by omega
                  have PP := Lib.hid po
                  have HPN := Lib.hid hpn
                  generalize pieceL (c.take k) = pk at *
                  obtain ⟨lk, HLK⟩ : ∃ lk, Hid (l4 ++ pk = lk) := ⟨_, rfl⟩
                  have hln : lk.length ≤ 70000 := by rw [← HLK.out, List.length_append]; omega
                  rw [HLK.out] at PP
                  clear hc1 hc hce hx hbox hwb po hpn c6
                  cases xb
                  · go_wp2_with (at_builtin; go_must (refine wpList_append_lies _ rfl (.tmp 80) (.tmp 87) 25 rfl W1.heap.size 9 i9 (.string ⟨#[]⟩) 1 16 Try.underlying25 hi9 hz90 hz91 hz92 rfl (by decide) v lk.length (lk.map Value.string) rfl (row_to (bl_alloc wr _) PP.out.1) ⟨wr.heap.size, 0, none⟩ 2 2 [.string ⟨#[45, 101]⟩, .string xt] rfl rfl (cells_two wr _ _ 9) (by intro u hu; simp at hu; rcases hu with rfl | rfl <;> rfl) (by omega) (by unfold maxLen; omega) (by omega) (by simp; omega) (wr.heap.size + 1) (by simp) ?_))
                    intro g2 cap2 w2 hown hgrow hat hlt2
                    have P5 := Lib.hid (PO.grow (l := lk) (m := [⟨#[45, 101]⟩, xt]) PP.out List.length_append.symm (bl_alloc wr _) hgrow hown)
                    clear hown hgrow hat hlt2
                    go_wp2_with fail
                    go_roundw
                    case rel => exact ⟨k + 1, _, rfl, by omega, by go_num, by rw [HPN.out, ← List.append_assoc, HLK.out]; exact P5.out⟩
                    case measure => simp [intOf]; omega
                  · go_wp2_with (at_builtin; go_must (refine wpList_append_lies _ rfl (.tmp 71) (.tmp 78) 25 rfl W1.heap.size 9 i9 (.string ⟨#[]⟩) 1 16 Try.underlying25 hi9 hz90 hz91 hz92 rfl (by decide) v lk.length (lk.map Value.string) rfl (row_to (bl_alloc wr _) PP.out.1) ⟨wr.heap.size, 0, none⟩ 2 2 [.string ⟨#[45, 102]⟩, .string xt] rfl rfl (cells_two wr _ _ 9) (by intro u hu; simp at hu; rcases hu with rfl | rfl <;> rfl) (by omega) (by unfold maxLen; omega) (by omega) (by simp; omega) (wr.heap.size + 1) (by simp) ?_))
                    intro g2 cap2 w2 hown hgrow hat hlt2
                    have P5 := Lib.hid (PO.grow (l := lk) (m := [⟨#[45, 102]⟩, xt]) PP.out List.length_append.symm (bl_alloc wr _) hgrow hown)
                    clear hown hgrow hat hlt2
                    go_wp2_with fail
                    go_roundw
                    case rel => exact ⟨k + 1, _, rfl, by omega, by go_num, by rw [HPN.out, ← List.append_assoc, HLK.out]; exact P5.out⟩
                    case measure => simp [intOf]; omega
                · obtain rfl : k = c.length := by omega
                  rw [List.take_of_length_le (Nat.le_refl _)] at po
                  have PP := Lib.hid po
                  have hpl := pieceL_length c
                  generalize pieceL c = pk at *
                  obtain ⟨lk, HLK⟩ : ∃ lk, Hid (l4 ++ pk = lk) := ⟨_, rfl⟩
                  have hln : lk.length ≤ 70000 := by rw [← HLK.out, List.length_append]; omega
                  rw [HLK.out] at PP
                  clear hbox hwb po c6 hlt
                  go_wp2_with (at_builtin; go_must (refine wpList_append_lies _ rfl (.tmp 89) (.tmp 90) 25 rfl W1.heap.size 9 i9 (.string ⟨#[]⟩) 1 16 Try.underlying25 hi9 hz90 hz91 hz92 rfl (by decide) v lk.length (lk.map Value.string) rfl (row_to (bl_alloc wr _) PP.out.1) ⟨wr.heap.size, 0, none⟩ 1 1 [.string dashes] rfl rfl (cells_one wr _ _) (by intro u hu; simp at hu; rcases hu with rfl; rfl) (by omega) (by unfold maxLen; omega) (by omega) (by simp; omega) (wr.heap.size + 1) (by simp) ?_))
                  intro g2 cap2 w2 hown hgrow hat hlt2
                  have p5 := PO.grow (l := lk) (m := [dashes]) PP.out List.length_append.symm (bl_alloc wr _) hgrow hown
                  have hbox := (p5.2.block w.heap.size (by rw [HW1.out]; omega)).trans HA.out
                  have hwb := HW.out.trans (p5.2.mono (by rw [HW1.out]; omega))
                  have c6 := (blk_at hbox 6 (v := .slice ao' n.length cap') rfl).1
                  have P5 := Lib.hid p5
                  have HWB := Lib.hid hwb
                  clear hown hgrow hat hlt2 p5 hbox hwb
                  have hln5 : (lk ++ [dashes]).length ≤ 70001 := by rw [List.length_append]; simp; omega
                  obtain ⟨l5, HL5⟩ : ∃ l5, Hid (lk ++ [dashes] = l5) := ⟨_, rfl⟩
                  rw [HL5.out] at hln5 P5
                  have HPQ : Hid (printP ⟨q, e, s, i, suf, c, n⟩ = (l5 ++ n, 0)) := by show _ = _; rw [HPP.out, ← HL5.out, ← HLK.out]; simp
                  obtain ⟨v5, HV5⟩ : ∃ v5, Hid (v5 = Value.slice (some ⟨g2, 0, none⟩) (lk.length + 1) cap2) := ⟨_, rfl⟩
                  have hex : ∃ a5 n5 c5, v5 = Value.slice a5 n5 c5 := ⟨_, _, _, HV5.out⟩
                  rw [← HV5.out] at P5 ⊢
                  cases ao' with
                  | none =>
                    have hn0 : n = [] := by
                      obtain ⟨_, _, e1, hc1⟩ := HN.out
                      cases n with
                      | nil => rfl
                      | cons a r =>
                        obtain ⟨b, off, hh, _⟩ := hc1 (by simp)
                        simp only [Value.slice.injEq] at e1
                        rw [hh] at e1; simp at e1
                    subst hn0
                    rw [hnz rfl] at c6
                    have c6 : w2.cell? ⟨w.heap.size, 6, none⟩ = some (.slice none 0 0) := c6
                    go_wp2_with (at_builtin; go_must (refine wpList_append_own_none rfl (.tmp 92) (.tmp 94) 25 rfl W1.heap.size 9 i9 1 Try.underlying25 hi9 v5 _ _ rfl P5.out.1 rfl ?_))
                    obtain ⟨a5, n5, cc5, rfl⟩ := hex
                    go_wp2_with fail
                    go_ret2
                    exact ⟨.slice a5 n5 cc5, by rw [HPQ.out]; rfl, by rw [HPQ.out, List.append_nil]; exact row_base P5.out.1 (by rw [HW1.out]; omega), HW.out.trans (P5.out.2.mono (by rw [HW1.out]; omega))⟩
                  | some ad =>
                    have hcs : ∀ j u, (n.map Value.string)[j]? = some u → w2.cell? (ad.add j) = some u := fun j u hu => by
                      have hjl : j < n.length := by have := (List.getElem?_eq_some_iff.1 hu).1; simpa using this
                      obtain ⟨_, _, e1, hc1⟩ := HN.out
                      obtain ⟨b, off, hh, hbl, hc⟩ := hc1 (by omega)
                      simp only [Value.slice.injEq] at e1
                      rw [hh] at e1
                      simp only [Option.some.injEq] at e1
                      rw [e1.1]
                      have ea : (⟨b, off, none⟩ : Addr).add j = ⟨b, off + j, none⟩ := by unfold Addr.add; split <;> simp_all
                      rw [ea, HWB.out.cell (p := ⟨b, off + j, none⟩) hbl, hc j hjl, ← hu]
                      simp [hjl]
                    have hs5 := P5.out.2.size
                    go_wp2_with (at_builtin; go_must (refine wpList_append_own _ rfl (.tmp 92) (.tmp 94) 25 rfl W1.heap.size 9 i9 (.string ⟨#[]⟩) 1 16 Try.underlying25 hi9 hz90 hz91 hz92 rfl (by decide) v5 l5.length (l5.map Value.string) rfl P5.out.1 ad n.length cap' (n.map Value.string) rfl (by simp) hcs (by intro u hu; simp at hu; obtain ⟨x, _, rfl⟩ := hu; rfl) (by unfold maxLen; omega) (by omega) hs5 ?_))
                    intro v6 w6 hown hgrow hiff
                    have P6 := Lib.hid (PO.grow (l := l5) (m := n) P5.out List.length_append.symm (Below.refl _ _) hgrow hown)
                    obtain ⟨a6, cc6, rfl⟩ := row_slice hown
                    clear hown hgrow hiff hcs
                    go_wp2_with fail
                    go_ret2
                    exact ⟨.slice a6 (l5.length + n.length) cc6, by rw [HPQ.out]; rfl, by rw [HPQ.out]; exact row_base P6.out.1 (by rw [HW1.out]; omega), HW.out.trans (P6.out.2.mono (by rw [HW1.out]; omega))⟩

/-- A slice with no address has no room. -/
def Nz (v : Value) : Prop := ∀ n cap, v = .slice none n cap → cap = 0

theorem right_suf {a : Av} (h : rightB a = true) : a.suf.size ≤ 255 := by
  simp only [rightB, sufOk, Bool.and_eq_true, decide_eq_true_eq] at h
  exact h.1.1.2.1

theorem rprint_any (v : Value) (a : Av) (w : World) (sv nv : Value) (hv : v = a.val sv nv) (hs : Sx w sv a.scr) (hn : Tx w nv a.nam) (hz : Nz nv) (h1 : a.scr.length ≤ 4611686018427387) (h2 : a.nam.length ≤ 4611686018427387) :
    Calls Try.prog 14 #[v] w (PrintPost w a) := by
  subst hv
  have HS := Lib.hid hs
  have HN := Lib.hid hn
  obtain ⟨ao, cap, rfl, hc⟩ := hs
  obtain ⟨ao', cap', rfl, hc'⟩ := hn
  clear hc hc'
  obtain ⟨q, e, s, i, suf, c, n⟩ := a
  rcases Bool.eq_false_or_eq_true (rightB ⟨q, e, s, i, suf, c, n⟩) with hr | hr
  · exact rprint_core q e s i suf c n ao cap ao' cap' w HS HN hr h1 h2 (right_suf hr) (fun e => hz _ _ (by rw [e]))
  · have HR := Lib.hid (fun W (hx : Ax W (.agg #[.bool q, .bool e, .bool s, .bool i, .string suf, .slice ao c.length cap, .slice ao' n.length cap']) ⟨q, e, s, i, suf, c, n⟩) => rright_any _ _ W hx)
    rw [hr] at HR
    have HPP : Hid (printP ⟨q, e, s, i, suf, c, n⟩ = ([], 260)) := by show _ = _; unfold printP; rw [hr, if_pos rfl]
    have HW := Lib.hid (bl_alloc w (.cells #[.bool q, .bool e, .bool s, .bool i, .string suf, .slice ao c.length cap, .slice ao' n.length cap'] 27))
    clear hr hz h1 h2
    go_enter Try.func14, Try.ntmps14
    go_wp2_with fail
    refine (HR.out _ ⟨_, _, rfl, HS.out.to HW.out, HN.out.to HW.out⟩).mono ?_
    rintro e1 w1 ⟨rfl, hb1⟩
    have HB := Lib.hid (bl_to HW.out hb1)
    clear hb1 HR
    go_wp2_with fail
    go_ret2
    exact ⟨.slice none 0 0, by rw [HPP.out]; rfl, by rw [HPP.out]; exact Out.nil _ _, HB.out⟩
end Go.Proofs.Ytbigolappdlhcaa
