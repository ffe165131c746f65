/- begins; the law SpaceJoins. -/
import Derived.Test.YtbhepdlcnfcfgaaQ
namespace Go.Proofs.Ytbhepdlcnfcfgaa
set_option linter.unusedSimpArgs false
set_option linter.unusedVariables false
open Go.RowKit

theorem PostC.yes {w : World} {b base : Nat} {q : Value} {k : Int} {l : List It} {p0 h0 p h : ByteArray} {c : Int} {w' : World} (hp : PostC w b base q k l p0 h0 p h c w') (hf : ((p.size + h.size + tot l : Nat) : Int) ≤ k) :
    c = 0 ∧ St w' b base p h q k l ∧ Fr (fun i => i = b) w w' := by
  obtain ⟨f, ⟨_, hc, s⟩ | ⟨hn, _, _⟩⟩ := hp
  · exact ⟨hc, s, f⟩
  · omega
theorem PostC.no {w : World} {b base : Nat} {q : Value} {k : Int} {l : List It} {p0 h0 p h : ByteArray} {c : Int} {w' : World} (hp : PostC w b base q k l p0 h0 p h c w') (hf : k < ((p.size + h.size + tot l : Nat) : Int)) :
    c = 180 ∧ St w' b base p0 h0 q k l ∧ Fr (fun i => i = b) w w' := by
  obtain ⟨f, ⟨hn, _, _⟩ | ⟨_, hc, s⟩⟩ := hp
  · omega
  · exact ⟨hc, s, f⟩
theorem Fr.at {B b : Nat} {w0 w w' : World} (hb : Below B w0 w) (h : Fr (fun i => i = b) w w') (h1 : B ≤ w.heap.size) (h2 : B ≤ b) : Below B w0 w' := hb.trans (h.toBelow h1 (fun i _ e => by rw [e]; exact h2))

theorem Fr.ats {B b : Nat} {w0 w w' : World} (hb : Below B w0 w ∧ B ≤ w.heap.size) (h : Fr (fun i => i = b) w w') (h2 : B ≤ b) : Below B w0 w' ∧ B ≤ w'.heap.size := ⟨Fr.at hb.1 h hb.2 h2, Nat.le_trans hb.2 h.size⟩

theorem sz_abc : (⟨#[97, 98, 99]⟩ : ByteArray).size = 3 := rfl
theorem sz_ab : (⟨#[97, 98]⟩ : ByteArray).size = 2 := rfl
theorem sz_nil : (⟨#[]⟩ : ByteArray).size = 0 := rfl

set_option maxHeartbeats 800000 in
theorem begins_any (w : World) : Calls Try.prog 9 #[] w fun e w' => e = .returned (.bool true) ∧ Below w.heap.size w w' := by
  go_enter Try.func9, Try.ntmps9
  go_wp2_with fail
  refine (New_yes 5 _ (by omega) (by omega)).mono ?_
  rintro e w1 ⟨rfl, s1, hb1⟩
  go_wp2_with fail
  refine (Set_st w.heap.size w.heap.size ⟨#[]⟩ ⟨#[]⟩ ⟨#[97, 98, 99]⟩ _ 5 [] _ s1 (by rw [sz_abc]; omega)).mono ?_
  rintro e w2 ⟨c, rfl, hp⟩
  obtain ⟨rfl, s2, hf2⟩ := hp.yes (by rw [sz_abc, sz_nil]; simp [tot])
  clear hp
  go_wp2_with fail
  refine (Put_st w.heap.size w.heap.size _ _ _ 5 [] _ s2).mono ?_
  rintro e w3 ⟨c, rfl, hp⟩
  obtain ⟨rfl, s3, hf3⟩ := hp.no (by rw [sz_abc]; simp [tot])
  clear hp
  go_wp2_with fail
  refine (Set_st w.heap.size w.heap.size _ _ ⟨#[97, 98]⟩ _ 5 [] _ s3 (by rw [sz_ab]; omega)).mono ?_
  rintro e w4 ⟨c, rfl, hp⟩
  obtain ⟨rfl, s4, hf4⟩ := hp.yes (by rw [sz_ab, sz_nil]; simp [tot])
  clear hp
  go_wp2_with fail
  refine (Put_st w.heap.size w.heap.size _ _ _ 5 [] _ s4).mono ?_
  rintro e w5 ⟨c, rfl, hp⟩
  obtain ⟨rfl, s5, hf5⟩ := hp.yes (by rw [sz_ab]; simp [tot])
  clear hp
  have HB := Lib.hid ((Fr.ats (Fr.ats (Fr.ats (Fr.ats ⟨hb1, hb1.size⟩ hf2 (Nat.le_refl _)) hf3 (Nat.le_refl _)) hf4 (Nat.le_refl _)) hf5 (Nat.le_refl _)).1)
  clear hb1 hf2 hf3 hf4 hf5 s1 s2 s3 s4
  go_wp2_with (first
    | (go_at_call 16; refine (Pattern_any w.heap.size _ _ _ _ _ s5.sp).mono ?_; rintro e w' ⟨rfl, rfl⟩)
    | (go_at_call 15; refine (Hold_any w.heap.size _ _ _ _ _ s5.sp).mono ?_; rintro e w' ⟨rfl, rfl⟩)
    | (go_at_call 19; refine (Used_any w.heap.size w.heap.size _ _ _ _ [] _ s5.sp s5.qu (by rw [sz_ab]; simp [tot]) (by simp)).mono ?_; rintro e w6 ⟨rfl, hb6⟩))
  go_ret
  exact ⟨by simp [tot], bl_to HB.out hb6⟩

end Go.Proofs.Ytbhepdlcnfcfgaa
