/- Frames; the closures. -/
import Derived.Test.YtbhepdlcnfcfgaaT
import Derived.RegionTactic
import Derived.ChangeAlike
namespace Go.Proofs.Ytbhepdlcnfcfgaa
set_option linter.unusedSimpArgs false
set_option linter.unusedVariables false
open Go.RowKit

/-- Of the blocks that were there only those of S may have turned. -/
structure Fr (S : Nat → Prop) (w w' : World) : Prop where
  os : w'.os = w.os
  tape : w'.tape = w.tape
  output : w'.output = w.output
  size : w.heap.size ≤ w'.heap.size
  block : ∀ k, k < w.heap.size → ¬ S k → w'.heap[k]? = w.heap[k]?

theorem Fr.refl (S : Nat → Prop) (w : World) : Fr S w w := ⟨rfl, rfl, rfl, Nat.le_refl _, fun _ _ _ => rfl⟩
theorem Fr.trans {S S' : Nat → Prop} {a b c : World} (h : Fr S a b) (k : Fr S' b c) (hS : ∀ i, i < a.heap.size → S' i → S i) : Fr S a c :=
  ⟨k.os.trans h.os, k.tape.trans h.tape, k.output.trans h.output, Nat.le_trans h.size k.size, fun i hi hn => (k.block i (Nat.lt_of_lt_of_le hi h.size) (fun hs => hn (hS i hi hs))).trans (h.block i hi hn)⟩
theorem Fr.mono {S S' : Nat → Prop} {a b : World} (h : Fr S a b) (hS : ∀ i, i < a.heap.size → S i → S' i) : Fr S' a b := ⟨h.os, h.tape, h.output, h.size, fun i hi hn => h.block i hi (fun hs => hn (hS i hi hs))⟩
theorem Fr.ofBelow (S : Nat → Prop) {a b : World} (h : Below a.heap.size a b) : Fr S a b := ⟨h.os, h.tape, h.output, h.size, fun i hi _ => h.block i hi⟩
theorem Fr.toBelow {S : Nat → Prop} {B : Nat} {a b : World} (h : Fr S a b) (hB : B ≤ a.heap.size) (hS : ∀ i, i < a.heap.size → S i → B ≤ i) : Below B a b := ⟨h.os, h.tape, h.output, h.size, fun i hi => h.block i (by omega) (fun hs => by have := hS i (by omega) hs; omega)⟩
theorem Fr.alloc {S : Nat → Prop} {a w : World} (h : Fr S a w) (o : Obj) : Fr S a (w.alloc o) := h.trans (Fr.ofBelow (fun _ => False) ((Below.refl _ _).alloc (Nat.le_refl _) o)) (fun _ _ hs => hs.elim)
theorem Fr.drew {S : Nat → Prop} {a w : World} (h : Fr S a w) : Fr S a w.drew := h.trans (Fr.ofBelow (fun _ => False) ((Below.refl _ _).drew)) (fun _ _ hs => hs.elim)
theorem Fr.setCell {S : Nat → Prop} {a w : World} (h : Fr S a w) {p : Addr} (hp : S p.block) (u : Value) : Fr S a (w.setCell p u) :=
  h.trans (S' := fun k => k = p.block) ⟨rfl, rfl, rfl, by simp [World.setCell], fun k _ hk => Below.heap_setCell _ _ _ _ hk⟩ (fun i _ e => by rw [e]; exact hp)
theorem Fr.qu {S : Nat → Prop} {a w : World} (h : Fr S a w) {base q l} (hq : Qu a base q l) (hS : ∀ k, q.ownBlock = some k → ¬ S k) : Qu w base q l := by
  refine ⟨hq.1, ?_⟩
  rcases hq.2 with hn | ⟨g, cap, cur, rfl, hb, hgg, rest⟩
  · exact .inl hn
  · refine .inr ⟨g, cap, cur, rfl, hb, ?_, rest⟩
    rw [h.block g (lt_of_block hgg) (hS g rfl)]
    exact hgg
theorem Fr.sp {S : Nat → Prop} {a w : World} (h : Fr S a w) {b p h' q k} (hs : Sp a b p h' q k) (hS : ¬ S b) : Sp w b p h' q k := (h.block b hs.lt hS).trans hs

theorem heap_setCell_same (w : World) (b o : Nat) (cells : Array Value) (t : TypeId) (fr : Nat × Nat) (u : Value) (h : w.heap[b]? = some (.cells cells t fr)) : (w.setCell ⟨b, o, none⟩ u).heap[b]? = some (.cells (cells.setIfInBounds o u) t fr) := by
  have hlt := lt_of_block h
  have h' : w.heap[b] = .cells cells t fr := by simpa [Array.getElem?_eq_getElem hlt] using h
  show (w.heap.modify b _)[b]? = _
  rw [Array.getElem?_eq_getElem (by simpa using hlt), Array.getElem_modify_self, h']
  rfl
theorem sp_set0 {w : World} {b p h q k} (s : Sp w b p h q k) (t : ByteArray) : Sp (w.setCell ⟨b, 0, none⟩ (.string t)) b t h q k := by
  simp only [Sp] at *; rw [heap_setCell_same _ _ _ _ _ _ _ s]; rfl
theorem sp_set1 {w : World} {b p h q k} (s : Sp w b p h q k) (t : ByteArray) : Sp (w.setCell ⟨b, 1, none⟩ (.string t)) b p t q k := by
  simp only [Sp] at *; rw [heap_setCell_same _ _ _ _ _ _ _ s]; rfl
theorem sp_set2 {w : World} {b p h q k} (s : Sp w b p h q k) (t : Value) : Sp (w.setCell ⟨b, 2, none⟩ t) b p h t k := by
  simp only [Sp] at *; rw [heap_setCell_same _ _ _ _ _ _ _ s]; rfl

/-- What a closure that writes the texts leaves. -/
def Did (w w' : World) (b : Nat) (p h : ByteArray) (q : Value) (k : Int) : Prop := Sp w' b p h q k ∧ Fr (fun i => i = b) w w'

set_option maxHeartbeats 400000 in
theorem set1 (b c : Nat) (p h t : ByteArray) (q : Value) (k : Int) (w : World) (hb : Sp w b p h q k) (hc : w.cell? ⟨c, 0, none⟩ = some (.string t)) :
    Calls Try.prog 33 #[.pointer (some ⟨b, 0, none⟩), .pointer (some ⟨c, 0, none⟩)] w fun e w' => e = .returned (.tuple #[]) ∧ Did w w' b t h q k := by
  have h0 := hb.c0
  have f0 := hb.fr 0
  have H := Lib.hid hb
  clear hb
  go_enter Try.func33, Try.ntmps33
  go_wp2
  go_end0
  exact ⟨rfl, sp_set0 H.out _, Fr.setCell (S := fun i => i = b) (Fr.refl _ _) rfl _⟩

set_option maxHeartbeats 400000 in
theorem put1 (b : Nat) (p h : ByteArray) (q : Value) (k : Int) (w : World) (hb : Sp w b p h q k) :
    Calls Try.prog 34 #[.pointer (some ⟨b, 0, none⟩)] w fun e w' => e = .returned (.tuple #[]) ∧ Did w w' b p p q k := by
  have h0 := hb.c0
  have h1 := hb.c1
  have f0 := hb.fr 1
  have H := Lib.hid hb
  clear hb
  go_enter Try.func34, Try.ntmps34
  go_wp2
  go_end0
  exact ⟨rfl, sp_set1 H.out _, Fr.setCell (S := fun i => i = b) (Fr.refl _ _) rfl _⟩

set_option maxHeartbeats 400000 in
theorem get1 (b : Nat) (p h : ByteArray) (q : Value) (k : Int) (w : World) (hb : Sp w b p h q k) :
    Calls Try.prog 41 #[.pointer (some ⟨b, 0, none⟩)] w fun e w' => e = .returned (.tuple #[]) ∧ Did w w' b h h q k := by
  have h0 := hb.c0
  have h1 := hb.c1
  have f0 := hb.fr 0
  have H := Lib.hid hb
  clear hb
  go_enter Try.func41, Try.ntmps41
  go_wp2
  go_end0
  exact ⟨rfl, sp_set0 H.out _, Fr.setCell (S := fun i => i = b) (Fr.refl _ _) rfl _⟩

set_option maxHeartbeats 400000 in
theorem drop1 (b c : Nat) (p h t : ByteArray) (q : Value) (k : Int) (w : World) (hb : Sp w b p h q k) (hc : w.cell? ⟨c, 0, none⟩ = some (.string t)) :
    Calls Try.prog 43 #[.pointer (some ⟨b, 0, none⟩), .pointer (some ⟨c, 0, none⟩)] w fun e w' => e = .returned (.tuple #[]) ∧ Did w w' b t h q k := by
  have h0 := hb.c0
  have f0 := hb.fr 0
  have H := Lib.hid hb
  clear hb
  go_enter Try.func43, Try.ntmps43
  go_wp2
  go_end0
  exact ⟨rfl, sp_set0 H.out _, Fr.setCell (S := fun i => i = b) (Fr.refl _ _) rfl _⟩

/-- A line feed between two texts. -/
def joined (a b : ByteArray) : ByteArray := a ++ (⟨#[10]⟩ ++ b)
theorem joined_size (a b : ByteArray) : (joined a b).size = a.size + 1 + b.size := by
  unfold joined; rw [ByteArray.size_append, ByteArray.size_append, show (⟨#[10]⟩ : ByteArray).size = 1 from rfl]; omega

theorem Did.drew {w w' : World} {b p h q k} (d : Did w w' b p h q k) : Did w w'.drew b p h q k := ⟨d.1, d.2.drew⟩

set_option maxHeartbeats 400000 in
theorem putMore1 (b : Nat) (p h : ByteArray) (q : Value) (k : Int) (w : World) (hb : Sp w b p h q k) (hs : p.size + h.size ≤ 4611686018427387904) :
    Calls Try.prog 35 #[.pointer (some ⟨b, 0, none⟩)] w fun e w' => e = .returned (.tuple #[]) ∧ Did w w' b p (joined h p) q k := by
  have h0 := hb.c0
  have h1 := hb.c1
  have f0 := hb.fr 1
  have H := Lib.hid hb
  clear hb
  go_enter Try.func35, Try.ntmps35
  go_wp2
  go_region
  go_end0
  exact ⟨rfl, Did.drew ⟨sp_set1 H.out _, Fr.setCell (S := fun i => i = b) (Fr.refl _ _) rfl _⟩⟩

set_option maxHeartbeats 400000 in
theorem getMore1 (b : Nat) (p h : ByteArray) (q : Value) (k : Int) (w : World) (hb : Sp w b p h q k) (hs : p.size + h.size ≤ 4611686018427387904) :
    Calls Try.prog 36 #[.pointer (some ⟨b, 0, none⟩)] w fun e w' => e = .returned (.tuple #[]) ∧ Did w w' b (joined p h) h q k := by
  have h0 := hb.c0
  have h1 := hb.c1
  have f0 := hb.fr 0
  have H := Lib.hid hb
  clear hb
  go_enter Try.func36, Try.ntmps36
  go_wp2
  go_region
  go_end0
  exact ⟨rfl, Did.drew ⟨sp_set0 H.out _, Fr.setCell (S := fun i => i = b) (Fr.refl _ _) rfl _⟩⟩

set_option maxHeartbeats 400000 in
theorem join1 (b c : Nat) (p h t : ByteArray) (q : Value) (k : Int) (w : World) (hb : Sp w b p h q k) (hs : p.size + t.size ≤ 4611686018427387904) (hc : w.cell? ⟨c, 0, none⟩ = some (.string t)) :
    Calls Try.prog 37 #[.pointer (some ⟨b, 0, none⟩), .pointer (some ⟨c, 0, none⟩)] w fun e w' => e = .returned (.tuple #[]) ∧ Did w w' b (joined p t) h q k := by
  have h0 := hb.c0
  have f0 := hb.fr 0
  have H := Lib.hid hb
  clear hb
  go_enter Try.func37, Try.ntmps37
  go_wp2
  go_region
  go_end0
  exact ⟨rfl, Did.drew ⟨sp_set0 H.out _, Fr.setCell (S := fun i => i = b) (Fr.refl _ _) rfl _⟩⟩

set_option maxHeartbeats 400000 in
theorem swap1 (b : Nat) (p h : ByteArray) (q : Value) (k : Int) (w : World) (hb : Sp w b p h q k) :
    Calls Try.prog 40 #[.pointer (some ⟨b, 0, none⟩)] w fun e w' => e = .returned (.tuple #[]) ∧ Did w w' b h p q k := by
  have h0 := hb.c0
  have h1 := hb.c1
  have f0 := hb.fr 1
  have f1 := hb.fr 0
  have H := Lib.hid hb
  clear hb
  go_enter Try.func40, Try.ntmps40
  go_wp2
  go_region
  go_end0
  exact ⟨rfl, Did.drew ⟨sp_set1 (sp_set0 H.out _) _, Fr.setCell (S := fun i => i = b) (Fr.setCell (S := fun i => i = b) (Fr.refl _ _) rfl _) rfl _⟩⟩

end Go.Proofs.Ytbhepdlcnfcfgaa
