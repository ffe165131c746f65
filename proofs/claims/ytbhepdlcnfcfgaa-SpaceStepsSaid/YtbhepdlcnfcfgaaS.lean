/- A step (do) of a space; what it answers and leaves. -/
import Derived.Test.YtbhepdlcnfcfgaaG
import Derived.Test.YtbhepdlcnfcfgaaD
namespace Go.Proofs.Ytbhepdlcnfcfgaa
set_option linter.unusedSimpArgs false
set_option linter.unusedVariables false
open Go.RowKit

/-- A step's kinds that turn the texts: the texts behind. -/
def nxt (x : Stp) (p h : ByteArray) (l : List It) : ByteArray × ByteArray × List It :=
  if x.k = 0 then (x.t, h, l) else if x.k = 1 then (joined p x.t, h, l) else if x.k = 2 then (h, h, l) else if x.k = 3 then (joined p h, h, l) else if x.k = 4 then (p, p, l) else if x.k = 5 then (p, joined h p, l)
  else if x.k = 6 then (h, p, l) else if x.k = 7 then (rest p, h, l) else if x.k = 8 then (p, h, l ++ [(x.ik, x.it)]) else if x.k = 9 then (p, h, []) else (p, h, l)
def sz (t : ByteArray × ByteArray × List It) : Nat := t.1.size + t.2.1.size + tot t.2.2
/-- A step's error. -/
def why (k : Int) (x : Stp) (p h : ByteArray) (l : List It) : Int := if x.k = 8 ∧ ¬ (1 ≤ x.ik ∧ x.ik ≤ 3) then 2 else if k < (sz (nxt x p h l) : Int) then 180 else 0
/-- The texts and the queue behind a step. -/
def aft (k : Int) (x : Stp) (p h : ByteArray) (l : List It) : ByteArray × ByteArray × List It := if why k x p h l = 0 then nxt x p h l else (p, h, l)

/-- What a step leaves: its answers b (whether), tv (what was taken), c (the error). -/
def DoC (w : World) (B : Nat) (q : Value) (k : Int) (l : List It) (p h : ByteArray) (x : Stp) (b : Bool) (tv : Value) (c : Int) (w' : World) : Prop :=
  b = (decide (x.k = 7) && nlIs p) ∧ c = why k x p h l ∧ (x.k = 9 → Qu w' B tv l) ∧
  ∃ q', St w' B B (aft k x p h l).1 (aft k x p h l).2.1 q' k (aft k x p h l).2.2 ∧ Fr (fun i => i = B ∨ q.ownBlock = some i) w w' ∧ (q'.ownBlock = q.ownBlock ∨ q'.ownBlock = none ∨ ∃ g, q'.ownBlock = some g ∧ w.heap.size ≤ g)
def DoPost (w : World) (B : Nat) (q : Value) (k : Int) (l : List It) (p h : ByteArray) (x : Stp) (e : Ending) (w' : World) : Prop :=
  ∃ b ao n cap c, e = .returned (.tuple #[.bool b, .slice ao n cap, .int .i64 c]) ∧ DoC w B q k l p h x b (.slice ao n cap) c w'

theorem St.same {w w' : World} {B : Nat} {p h p' h' : ByteArray} {q : Value} {k : Int} {l l' : List It} (s : St w B B p h q k l) (e1 : p = p') (e2 : h = h') (e3 : l = l') : St w B B p' h' q k l' := by subst e1 e2 e3; exact s

/-- Out of a method that turns the texts. -/
theorem DoC.ofPost {w w' : World} {B : Nat} {q : Value} {k : Int} {l : List It} {p h p' h' : ByteArray} {x : Stp} {c : Int} (hn : nxt x p h l = (p', h', l)) (h7 : x.k ≠ 7) (h8 : x.k ≠ 8) (h9 : x.k ≠ 9) (hp : PostC w B B q k l p h p' h' c w') :
    DoC w B q k l p h x false (.slice none 0 0) c w' := by
  have hsz : sz (nxt x p h l) = p'.size + h'.size + tot l := by rw [hn]; rfl
  have hwhy : why k x p h l = if k < ((p'.size + h'.size + tot l : Nat) : Int) then 180 else 0 := by unfold why; rw [if_neg (fun e => h8 e.1), hsz]
  obtain ⟨hf, ⟨hfit, hc, hs⟩ | ⟨hno, hc, hs⟩⟩ := hp
  · have hw0 : why k x p h l = 0 := by rw [hwhy, if_neg (by omega)]
    have ha : aft k x p h l = (p', h', l) := by unfold aft; rw [if_pos hw0, hn]
    refine ⟨by simp [h7], by rw [hc, hw0], fun e => absurd e h9, q, ?_, hf.mono (fun i _ e => .inl e), .inl rfl⟩
    rw [ha]; exact hs
  · have hw0 : why k x p h l = 180 := by rw [hwhy, if_pos hno]
    have ha : aft k x p h l = (p, h, l) := by unfold aft; rw [if_neg (by rw [hw0]; omega)]
    refine ⟨by simp [h7], by rw [hc, hw0], fun e => absurd e h9, q, ?_, hf.mono (fun i _ e => .inl e), .inl rfl⟩
    rw [ha]; exact hs

theorem DoC.ofDrop {w w' : World} {B : Nat} {q : Value} {k : Int} {l : List It} {p h : ByteArray} {x : Stp} (s : St w B B p h q k l) (h7 : x.k = 7) (hf : Fr (fun i => i = B) w w') (hs : St w' B B (rest p) h q k l) :
    DoC w B q k l p h x (nlIs p) (.slice none 0 0) 0 w' := by
  have hn : nxt x p h l = (rest p, h, l) := by simp [nxt, h7]
  have hw0 : why k x p h l = 0 := by
    unfold why
    rw [if_neg (by omega), hn, if_neg]
    have := hs.inv
    simp only [sz]
    omega
  have ha : aft k x p h l = (rest p, h, l) := by unfold aft; rw [if_pos hw0, hn]
  refine ⟨by simp [h7], by rw [hw0], fun e => by omega, q, ?_, hf.mono (fun i _ e => .inl e), .inl rfl⟩
  rw [ha]; exact hs

theorem DoC.ofPush {w w' : World} {B : Nat} {q : Value} {k : Int} {l : List It} {p h : ByteArray} {x : Stp} {c : Int} (s : St w B B p h q k l) (h8 : x.k = 8) (hp : PushC w B B p h q k l x.ik x.it c w') :
    DoC w B q k l p h x false (.slice none 0 0) c w' := by
  have hn : nxt x p h l = (p, h, l ++ [(x.ik, x.it)]) := by simp [nxt, h8]
  have hsz : sz (nxt x p h l) = p.size + h.size + tot l + x.it.size := by rw [hn]; simp only [sz]; rw [tot_append]; simp [tot]; omega
  rcases hp with ⟨hb, hc, hbel⟩ | ⟨hg, hno, hc, hbel⟩ | ⟨hg, hfit, hc, q', hs, hf, hat⟩
  · have hw : why k x p h l = 2 := by unfold why; rw [if_pos ⟨h8, hb⟩]
    have ha : aft k x p h l = (p, h, l) := by unfold aft; rw [if_neg (by rw [hw]; omega)]
    refine ⟨by simp [h8], by rw [hc, hw], fun e => by omega, q, ?_, Fr.ofBelow _ hbel, .inl rfl⟩
    rw [ha]; exact s.to hbel
  · have hw : why k x p h l = 180 := by unfold why; rw [if_neg (fun e => e.2 hg), hsz, if_pos hno]
    have ha : aft k x p h l = (p, h, l) := by unfold aft; rw [if_neg (by rw [hw]; omega)]
    refine ⟨by simp [h8], by rw [hc, hw], fun e => by omega, q, ?_, Fr.ofBelow _ hbel, .inl rfl⟩
    rw [ha]; exact s.to hbel
  · have hw : why k x p h l = 0 := by unfold why; rw [if_neg (fun e => e.2 hg), hsz, if_neg (by omega)]
    have ha : aft k x p h l = (p, h, l ++ [(x.ik, x.it)]) := by unfold aft; rw [if_pos hw, hn]
    refine ⟨by simp [h8], by rw [hc, hw], fun e => by omega, q', ?_, hf, ?_⟩
    · rw [ha]; exact hs
    · rcases hat with h1 | h1
      · exact .inl h1
      · exact .inr (.inr h1)

theorem DoC.ofTake {w w' : World} {B : Nat} {q : Value} {k : Int} {l : List It} {p h : ByteArray} {x : Stp} (s : St w B B p h q k l) (h9 : x.k = 9) (hsp : Sp w' B p h (.slice none 0 0) k) (hf : Fr (fun i => i = B) w w') :
    DoC w B q k l p h x false q 0 w' := by
  have hn : nxt x p h l = (p, h, []) := by simp [nxt, h9]
  have hinv := s.inv
  have hw : why k x p h l = 0 := by
    unfold why
    rw [if_neg (by omega), hn, if_neg]
    simp only [sz, tot]
    omega
  have ha : aft k x p h l = (p, h, []) := by unfold aft; rw [if_pos hw, hn]
  refine ⟨by simp [h9], by rw [hw], fun _ => s.qu.over s.sp hf, .slice none 0 0, ?_, hf.mono (fun i _ e => .inl e), .inr (.inl rfl)⟩
  rw [ha]
  exact ⟨hsp, World.ownsRow_nil _ _ _ _, by simp only [tot]; omega, s.kle, by simp⟩

theorem DoC.ofNone {w w' : World} {B : Nat} {q : Value} {k : Int} {l : List It} {p h : ByteArray} {x : Stp} (s : St w B B p h q k l) (hx : ¬ (0 ≤ x.k ∧ x.k ≤ 9)) (hb : Below w.heap.size w w') :
    DoC w B q k l p h x false (.slice none 0 0) 0 w' := by
  have hn : nxt x p h l = (p, h, l) := by
    unfold nxt
    rw [if_neg (by omega), if_neg (by omega), if_neg (by omega), if_neg (by omega), if_neg (by omega), if_neg (by omega), if_neg (by omega), if_neg (by omega), if_neg (by omega), if_neg (by omega)]
  have hinv := s.inv
  have hw : why k x p h l = 0 := by
    unfold why
    rw [if_neg (by omega), hn, if_neg]
    simp only [sz]
    omega
  have ha : aft k x p h l = (p, h, l) := by unfold aft; rw [if_pos hw, hn]
  refine ⟨by simp; omega, by rw [hw], fun e => by omega, q, ?_, Fr.ofBelow _ hb, .inl rfl⟩
  rw [ha]; exact s.to hb

theorem DoC.from {w W w' : World} {B : Nat} {q : Value} {k : Int} {l : List It} {p h : ByteArray} {x : Stp} {b : Bool} {tv : Value} {c : Int} (hb : Below w.heap.size w W) (hd : DoC W B q k l p h x b tv c w') : DoC w B q k l p h x b tv c w' := by
  obtain ⟨h1, h2, h3, q', h4, h5, h6⟩ := hd
  refine ⟨h1, h2, h3, q', h4, (Fr.ofBelow (fun i => i = B ∨ q.ownBlock = some i) hb).trans h5 (fun _ _ e => e), ?_⟩
  rcases h6 with h6 | h6 | ⟨g, hg, hge⟩
  · exact .inl h6
  · exact .inr (.inl h6)
  · exact .inr (.inr ⟨g, hg, Nat.le_trans hb.size hge⟩)

set_option maxHeartbeats 6400000 in
theorem do_any (B : Nat) (p h : ByteArray) (q : Value) (k : Int) (l : List It) (x : Stp) (w : World) (s : St w B B p h q k l) (ht : x.t.size ≤ 140737488355328) (hit : x.it.size ≤ 140737488355328) (hn : l.length + 1 ≤ 5864062014805) :
    Calls Try.prog 27 #[.pointer (some ⟨B, 0, none⟩), stepVal x] w (DoPost w B q k l p h x) := by
  have hal : Below w.heap.size w (w.alloc (.cells #[.int .i64 x.k, .string x.t, .int .u8 x.ik, .string x.it] 50)) := (Below.refl _ _).alloc (Nat.le_refl _) _
  have HAL := Lib.hid hal
  have HS := Lib.hid (s.to hal)
  have HS0 := Lib.hid s
  obtain ⟨qo, qcap, rfl, _⟩ := s.qu.its.shape
  have hBw : B ≤ w.heap.size := Nat.le_of_lt s.sp.lt
  clear hal s
  obtain ⟨xk, xt, ik, it⟩ := x
  simp only at *
  by_cases hk : 0 ≤ xk ∧ xk ≤ 9
  · rcases (show xk = 0 ∨ xk = 1 ∨ xk = 2 ∨ xk = 3 ∨ xk = 4 ∨ xk = 5 ∨ xk = 6 ∨ xk = 7 ∨ xk = 8 ∨ xk = 9 by omega) with rfl | rfl | rfl | rfl | rfl | rfl | rfl | rfl | rfl | rfl
    all_goals
      clear hk
      go_enter Try.func27, Try.ntmps27
      go_wp2_with (first
        | (go_at_call 11; refine (Set_st B B p h xt _ k l _ HS.out ht).mono ?_; rintro e w1 ⟨c, rfl, hp⟩; have hd := DoC.from HAL.out (DoC.ofPost (x := ⟨0, xt, ik, it⟩) rfl (by simp) (by simp) (by simp) hp))
        | (go_at_call 17; refine (Join_st B B p h xt _ k l _ HS.out ht).mono ?_; rintro e w1 ⟨c, rfl, hp⟩; have hd := DoC.from HAL.out (DoC.ofPost (x := ⟨1, xt, ik, it⟩) rfl (by simp) (by simp) (by simp) hp))
        | (go_at_call 24; refine (Get_st B B p h _ k l _ HS.out).mono ?_; rintro e w1 ⟨c, rfl, hp⟩; have hd := DoC.from HAL.out (DoC.ofPost (x := ⟨2, xt, ik, it⟩) rfl (by simp) (by simp) (by simp) hp))
        | (go_at_call 14; refine (GetMore_st B B p h _ k l _ HS.out).mono ?_; rintro e w1 ⟨c, rfl, hp⟩; have hd := DoC.from HAL.out (DoC.ofPost (x := ⟨3, xt, ik, it⟩) rfl (by simp) (by simp) (by simp) hp))
        | (go_at_call 12; refine (Put_st B B p h _ k l _ HS.out).mono ?_; rintro e w1 ⟨c, rfl, hp⟩; have hd := DoC.from HAL.out (DoC.ofPost (x := ⟨4, xt, ik, it⟩) rfl (by simp) (by simp) (by simp) hp))
        | (go_at_call 13; refine (PutMore_st B B p h _ k l _ HS.out).mono ?_; rintro e w1 ⟨c, rfl, hp⟩; have hd := DoC.from HAL.out (DoC.ofPost (x := ⟨5, xt, ik, it⟩) rfl (by simp) (by simp) (by simp) hp))
        | (go_at_call 23; refine (Swap_st B B p h _ k l _ HS.out).mono ?_; rintro e w1 ⟨c, rfl, hp⟩; have hd := DoC.from HAL.out (DoC.ofPost (x := ⟨6, xt, ik, it⟩) rfl (by simp) (by simp) (by simp) hp))
        | (go_at_call 26; refine (Drop_st B B p h _ k l _ HS.out).mono ?_; rintro e w1 ⟨rfl, hf, hs⟩; have hd := DoC.from HAL.out (DoC.ofDrop (x := ⟨7, xt, ik, it⟩) HS.out rfl hf hs))
        | (go_at_call 18; refine (Push_st B B p h _ k l ik it _ HS.out (by simp; omega) hn hit).mono ?_; rintro e w1 ⟨c, rfl, hp⟩; have hd := DoC.from HAL.out (DoC.ofPush (x := ⟨8, xt, ik, it⟩) HS.out rfl hp))
        | (go_at_call 22; refine (Take_st B B p h _ k l _ HS.out).mono ?_; rintro e w1 ⟨rfl, hsp, hf⟩; have hd := DoC.from HAL.out (DoC.ofTake (x := ⟨9, xt, ik, it⟩) HS.out rfl hsp hf)))
      go_ret3
      exact ⟨_, _, _, _, _, rfl, hd⟩
  · have n0 : (xk == 0) = false := by simp; omega
    have n1 : (xk == 1) = false := by simp; omega
    have n2 : (xk == 2) = false := by simp; omega
    have n3 : (xk == 3) = false := by simp; omega
    have n4 : (xk == 4) = false := by simp; omega
    have n5 : (xk == 5) = false := by simp; omega
    have n6 : (xk == 6) = false := by simp; omega
    have n7 : (xk == 7) = false := by simp; omega
    have n8 : (xk == 8) = false := by simp; omega
    have n9 : (xk == 9) = false := by simp; omega
    go_enter Try.func27, Try.ntmps27
    go_wp2_with fail
    go_ret3
    exact ⟨_, _, _, _, _, rfl, DoC.ofNone HS0.out hk HAL.out⟩

end Go.Proofs.Ytbhepdlcnfcfgaa
