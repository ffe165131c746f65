/- Texts of one chain, merged by a small program (A, B, C, D). -/
import Derived.Test.YtlhppbendpnkeaaGreatDoorRows
import Derived.WalkKit
import Derived.WalkSpells
import Derived.WalkLawsBesides
import Derived.BigQuiet
import Derived.Deep.QuietTactic
import Derived.Deep.RegionHeld3
import Derived.Deep.LoopGhost
import Derived.Deep.AppendLies
import Derived.Deep.RegionLaw
import Derived.Deep.DeepMust
import Derived.RegionTactic
import Derived.ChangeAlike
import Derived.ProofKit
import Derived.Deep.Slices
import Derived.SizedLaws
import Derived.Lib.Hide
import Derived.Laws.IdiomStrings
/- Plain laws of TopNamed: paths as texts; a text in quotes. No program in sight. -/
namespace Go.Proofs.YtlhppbendpnkeaaGreatDoor
set_option linter.unusedSimpArgs false
set_option linter.unusedVariables false

abbrev Bs := List UInt8

/-- Each name with a slash behind it. -/
def jn (p : List Bs) : Bs := p.flatMap (fun n => n ++ [47])
theorem jn_cons (a : Bs) (p : List Bs) : jn (a :: p) = a ++ 47 :: jn p := by
  unfold jn; rw [List.flatMap_cons, List.append_assoc]; rfl

theorem sep_eq : ∀ (a b X Z : Bs), 47 ∉ a → 47 ∉ b → (a ++ 47 :: X = b ++ 47 :: Z ↔ a = b ∧ X = Z) := by
  intro a
  induction a with
  | nil =>
    intro b X Z ha hb
    cases b with
    | nil => simp
    | cons c b =>
      simp only [List.nil_append, List.cons_append, List.cons.injEq]
      constructor
      · rintro ⟨rfl, _⟩; simp at hb
      · rintro ⟨h, _⟩; cases h
  | cons d a ih =>
    intro b X Z ha hb
    cases b with
    | nil =>
      simp only [List.nil_append, List.cons_append, List.cons.injEq]
      constructor
      · rintro ⟨rfl, _⟩; simp at ha
      · rintro ⟨h, _⟩; cases h
    | cons c b =>
      simp only [List.mem_cons, not_or] at ha hb
      simp only [List.cons_append, List.cons.injEq, ih b X Z ha.2 hb.2]
      constructor
      · rintro ⟨rfl, rfl, rfl⟩; exact ⟨⟨rfl, rfl⟩, rfl⟩
      · rintro ⟨⟨rfl, rfl⟩, rfl⟩; exact ⟨rfl, rfl, rfl⟩

/-- One path's text, closed by a slash, begins another one's just if its names do. -/
theorem jn_prefix : ∀ (q p : List Bs), (∀ n ∈ q, 47 ∉ n) → (∀ n ∈ p, 47 ∉ n) → (jn q <+: jn p ↔ q <+: p) := by
  intro q
  induction q with
  | nil => intro p _ _; exact ⟨fun _ => List.nil_prefix, fun _ => List.nil_prefix⟩
  | cons a q ih =>
    intro p hq hp
    cases p with
    | nil =>
      rw [jn_cons]
      constructor
      · rintro ⟨t, ht⟩
        have := congrArg List.length ht
        simp [jn] at this
      · rintro ⟨t, ht⟩; cases ht
    | cons b p =>
      rw [jn_cons, jn_cons]
      have h1 := ih p (fun n hn => hq n (List.mem_cons_of_mem _ hn)) (fun n hn => hp n (List.mem_cons_of_mem _ hn))
      have ha := hq a (List.mem_cons_self ..)
      have hb := hp b (List.mem_cons_self ..)
      constructor
      · rintro ⟨t, ht⟩
        rw [List.append_assoc, List.cons_append] at ht
        obtain ⟨rfl, h2⟩ := (sep_eq a b _ _ ha hb).1 ht
        obtain ⟨u, hu⟩ := h1.1 ⟨t, h2⟩
        exact ⟨u, by rw [List.cons_append, hu]⟩
      · rintro ⟨t, ht⟩
        rw [List.cons_append, List.cons.injEq] at ht
        obtain ⟨rfl, h2⟩ := ht
        obtain ⟨u, hu⟩ := h1.2 ⟨t, h2⟩
        exact ⟨u, by rw [List.append_assoc, List.cons_append, hu]⟩

/-- How many first names are alike. -/
def alikeL : List Bs → List Bs → Nat
  | a :: p, b :: q => if a = b then alikeL p q + 1 else 0
  | _, _ => 0
theorem alike_all : ∀ (q p : List Bs), alikeL p q = q.length ↔ q <+: p := by
  intro q
  induction q with
  | nil => intro p; cases p <;> simp [alikeL]
  | cons b q ih =>
    intro p
    cases p with
    | nil => simp [alikeL]
    | cons a p =>
      rw [alikeL]
      by_cases h : a = b
      · subst h
        rw [if_pos rfl, List.length_cons]
        constructor
        · intro e
          obtain ⟨u, hu⟩ := (ih p).1 (by omega)
          exact ⟨u, by rw [List.cons_append, hu]⟩
        · rintro ⟨t, ht⟩
          rw [List.cons_append, List.cons.injEq] at ht
          have := (ih p).2 ⟨t, ht.2⟩
          omega
      · rw [if_neg h, List.length_cons]
        constructor
        · intro e; omega
        · rintro ⟨t, ht⟩
          rw [List.cons_append, List.cons.injEq] at ht
          exact absurd ht.1.symm h

/-- The letter of a byte that has one; 0: none. -/
def shortB : Nat → UInt8
  | 7 => 97 | 8 => 98 | 9 => 116 | 10 => 110 | 11 => 118 | 12 => 102 | 13 => 114 | _ => 0
/-- How a byte is told. -/
def toldB (c : UInt8) : Bs :=
  if c = 92 then [92, 92]
  else if shortB c.toNat ≠ 0 then [92, shortB c.toNat]
  else if c < 32 ∨ 127 ≤ c then [92, (48 : UInt8) + (c >>> 6), (48 : UInt8) + ((c >>> 3) &&& 7), (48 : UInt8) + (c &&& 7)]
  else [c]
/-- The same between quotes. -/
def quoB (c : UInt8) : Bs := if c = 34 then [92, 34] else toldB c
/-- A text in quotes. -/
def quote (s : Bs) : Bs := 34 :: (s.flatMap quoB ++ [34])
theorem quoB_pos (c : UInt8) : 0 < (quoB c).length := by
  unfold quoB toldB
  repeat' split
  all_goals simp
theorem quoB_le (c : UInt8) : (quoB c).length ≤ 4 := by
  unfold quoB toldB
  repeat' split
  all_goals simp

/-- A path's own text. -/
def textL : List Bs → Bs
  | [] => [47]
  | [a] => 47 :: a
  | a :: b :: p => 47 :: (a ++ textL (b :: p))
theorem textL_jn : ∀ p : List Bs, p ≠ [] → textL p ++ [47] = 47 :: jn p := by
  intro p
  induction p with
  | nil => intro h; exact absurd rfl h
  | cons a p ih =>
    intro _
    cases p with
    | nil => simp [textL, jn]
    | cons b p =>
      rw [textL, jn_cons, List.cons_append, List.append_assoc, ih (by simp)]
/-- The text with a slash behind it, but for the root's. -/
theorem textL_slash (p : List Bs) : (if textL p = [47] then textL p else textL p ++ [47]) = if p = [[]] then [47] else 47 :: jn p := by
  match p with
  | [] => simp [textL, jn]
  | [a] =>
    by_cases h : a = []
    · subst h; simp [textL]
    · rw [if_neg (by simpa [textL] using h), if_neg (by simpa using h), textL_jn _ (by simp)]
  | a :: b :: p =>
    have h : textL (a :: b :: p) ≠ [47] := by
      intro e
      rw [textL, List.cons.injEq] at e
      have h2 := congrArg List.length e.2
      have h3 : 0 < (textL (b :: p)).length := by cases p <;> simp [textL]
      rw [List.length_append, List.length_nil] at h2
      omega
    rw [if_neg h, if_neg (by simp), textL_jn _ (by simp)]
/-- A path's text begins another one's, up to a whole name, just if its names do. -/
theorem within_law (p q : List Bs) (hp : ∀ n ∈ p, 47 ∉ n ∧ n ≠ []) (hq : ∀ n ∈ q, 47 ∉ n ∧ n ≠ []) :
    alikeL p q = q.length ↔ (if textL q = [47] then textL q else textL q ++ [47]) <+: (if textL p = [47] then textL p else textL p ++ [47]) := by
  have ne : ∀ l : List Bs, (∀ n ∈ l, 47 ∉ n ∧ n ≠ []) → l ≠ [[]] := by
    intro l h e; subst e; exact (h [] (by simp)).2 rfl
  rw [textL_slash, textL_slash, if_neg (ne p hp), if_neg (ne q hq), alike_all, ← jn_prefix q p (fun n h => (hq n h).1) (fun n h => (hp n h).1)]
  constructor
  · rintro ⟨t, ht⟩; exact ⟨t, by rw [List.cons_append, ht]⟩
  · rintro ⟨t, ht⟩; rw [List.cons_append, List.cons.injEq] at ht; exact ⟨t, ht.2⟩

/-- A text taken apart at its slashes. -/
def splitB : Bs → List Bs
  | [] => [[]]
  | c :: s => if c = 47 then [] :: splitB s else match splitB s with
    | [] => [[c]]
    | a :: r => (c :: a) :: r
theorem splitB_ne : ∀ s, splitB s ≠ [] := by
  intro s
  cases s with
  | nil => simp [splitB]
  | cons c s => rw [splitB]; split; · simp
                · split <;> simp
theorem splitB_name : ∀ (a : Bs), 47 ∉ a → splitB a = [a] := by
  intro a
  induction a with
  | nil => intro _; rfl
  | cons c a ih =>
    intro h
    simp only [List.mem_cons, not_or] at h
    rw [splitB, if_neg (fun e => h.1 e.symm), ih h.2]
theorem splitB_app : ∀ (a s : Bs), 47 ∉ a → splitB (a ++ 47 :: s) = a :: splitB s := by
  intro a
  induction a with
  | nil => intro s _; rw [List.nil_append, splitB, if_pos rfl]
  | cons c a ih =>
    intro s h
    simp only [List.mem_cons, not_or] at h
    rw [List.cons_append, splitB, if_neg (fun e => h.1 e.symm), ih s h.2]
theorem textL_head (p : List Bs) : ∃ r, textL p = 47 :: r := by
  match p with
  | [] => exact ⟨[], rfl⟩
  | [a] => exact ⟨a, rfl⟩
  | a :: b :: p => exact ⟨_, rfl⟩
theorem splitB_text : ∀ p : List Bs, p ≠ [] → (∀ n ∈ p, 47 ∉ n) → splitB (textL p) = [] :: p := by
  intro p
  induction p with
  | nil => intro h; exact absurd rfl h
  | cons a p ih =>
    intro _ hp
    cases p with
    | nil => rw [textL, splitB, if_pos rfl, splitB_name a (hp a (by simp))]
    | cons b p =>
      have h := ih (by simp) (fun n hn => hp n (List.mem_cons_of_mem _ hn))
      obtain ⟨r, hr⟩ := textL_head (b :: p)
      rw [hr, splitB, if_pos rfl] at h
      simp only [List.cons.injEq, true_and] at h
      rw [textL, splitB, if_pos rfl, hr, splitB_app a r (hp a (by simp)), h]
end Go.Proofs.YtlhppbendpnkeaaGreatDoor
/- Words: frames, rows, bytes. -/
namespace Go.Proofs.YtlhppbendpnkeaaGreatDoor
set_option linter.unusedSimpArgs false
set_option linter.unusedVariables false
open Go.RowKit Go.Deep Go.ChangeShapes Go.WideShapes Go.ChangeAt

theorem ret_int {k : IntKind} {a b : Int} (h : a = b) : Ending.returned (.int k a) = .returned (.int k b) := by rw [h]
theorem ret_bool {a b : Bool} (h : a = b) : Ending.returned (.bool a) = .returned (.bool b) := by rw [h]
theorem bl_to {w0 W w1 : World} (h : Below w0.heap.size w0 W) (hb : Below W.heap.size W w1) : Below w0.heap.size w0 w1 := h.trans (hb.mono h.size)
theorem bl_cell {W w1 : World} {a : Addr} {v : Value} (hb : Below W.heap.size W w1) (hc : W.cell? a = some v) : w1.cell? a = some v := (hb.cell (World.block_lt_of_cell? W a hc)).trans hc
theorem wrap_in (n : Int) (h1 : -9223372036854775808 ≤ n) (h2 : n ≤ 9223372036854775807) : IntKind.i64.wrap n = n := IntWalk.i64_in n ⟨h1, h2⟩


/-- Of the blocks that were there only those of S may have turned. -/
structure Fr (S : Nat → Prop) (w w' : World) : Prop where
  os : w'.os = w.os
  tape : w'.tape = w.tape
  output : w'.output = w.output
  size : w.heap.size ≤ w'.heap.size
  block : ∀ k, k < w.heap.size → ¬ S k → w'.heap[k]? = w.heap[k]?

theorem Fr.refl (S : Nat → Prop) (w : World) : Fr S w w := ⟨rfl, rfl, rfl, Nat.le_refl _, fun _ _ _ => rfl⟩
theorem Fr.trans {S S' : Nat → Prop} {a b c : World} (h : Fr S a b) (k : Fr S' b c) (hS : ∀ i, i < a.heap.size → S' i → S i) : Fr S a c :=
  ⟨k.os.trans h.os, k.tape.trans h.tape, k.output.trans h.output, Nat.le_trans h.size k.size, fun i hi hn => (k.block i (Nat.lt_of_lt_of_le hi h.size) (fun hs => hn (hS i hi hs))).trans (h.block i hi hn)⟩
theorem Fr.mono {S S' : Nat → Prop} {a b : World} (h : Fr S a b) (hS : ∀ i, i < a.heap.size → S i → S' i) : Fr S' a b := ⟨h.os, h.tape, h.output, h.size, fun i hi hn => h.block i hi (fun hs => hn (hS i hi hs))⟩
theorem Fr.ofBelow (S : Nat → Prop) {a b : World} (h : Below a.heap.size a b) : Fr S a b := ⟨h.os, h.tape, h.output, h.size, fun i hi _ => h.block i hi⟩
theorem Fr.toBelow {S : Nat → Prop} {B : Nat} {a b : World} (h : Fr S a b) (hB : B ≤ a.heap.size) (hS : ∀ i, i < a.heap.size → S i → B ≤ i) : Below B a b := ⟨h.os, h.tape, h.output, h.size, fun i hi => h.block i (by omega) (fun hs => by have := hS i (by omega) hs; omega)⟩
theorem Fr.alloc {S : Nat → Prop} {a w : World} (h : Fr S a w) (o : Obj) : Fr S a (w.alloc o) := h.trans (Fr.ofBelow (fun _ => False) ((Below.refl _ _).alloc (Nat.le_refl _) o)) (fun _ _ hs => hs.elim)
theorem Fr.drew {S : Nat → Prop} {a w : World} (h : Fr S a w) : Fr S a w.drew := h.trans (Fr.ofBelow (fun _ => False) ((Below.refl _ _).drew)) (fun _ _ hs => hs.elim)
theorem Fr.setCell {S : Nat → Prop} {a w : World} (h : Fr S a w) {p : Addr} (hp : S p.block) (u : Value) : Fr S a (w.setCell p u) :=
  h.trans (S' := fun k => k = p.block) ⟨rfl, rfl, rfl, by simp [World.setCell], fun k _ hk => Below.heap_setCell _ _ _ _ hk⟩ (fun i _ e => by rw [e]; exact hp)

theorem heap_setCell_same (w : World) (b o : Nat) (cells : Array Value) (t : TypeId) (fr : Nat × Nat) (u : Value) (h : w.heap[b]? = some (.cells cells t fr)) : (w.setCell ⟨b, o, none⟩ u).heap[b]? = some (.cells (cells.setIfInBounds o u) t fr) := by
  have hlt := lt_of_block h
  have h' : w.heap[b] = .cells cells t fr := by simpa [Array.getElem?_eq_getElem hlt] using h
  show (w.heap.modify b _)[b]? = _
  rw [Array.getElem?_eq_getElem (by simpa using hlt), Array.getElem_modify_self, h']
  rfl

theorem Fr.ofGrown {w w' : World} {row : Option Nat} (h : w.grownBy w' row) : Fr (fun i => row = some i) w w' := ⟨h.os, h.tape, h.output, h.size, fun k hk hn => h.block k hk (fun e => hn e.symm)⟩
theorem cells_two (w : World) (x y : Value) (t : TypeId) : ∀ j u, [x, y][j]? = some u → (w.alloc (.cells #[x, y] t)).cell? ((⟨w.heap.size, 0, none⟩ : Addr).add j) = some u := fun j u hu => by
  have hb : (w.alloc (.cells #[x, y] t)).heap[w.heap.size]? = some (.cells #[x, y] t (0, 0)) := heap_alloc_new w _
  exact World.news_of_block hb j u hu


theorem ba_ext {a b : ByteArray} (h : a.data.toList = b.data.toList) : a = b := WideShapes.bytes_inj h
theorem ba_append (a b : ByteArray) : (a ++ b).data.toList = a.data.toList ++ b.data.toList := by rw [ByteArray.data_append, Array.toList_append]
theorem ba_extract (s : ByteArray) (a b : Nat) : (s.extract a b).data.toList = (s.data.toList.take b).drop a := by
  rw [ByteArray.data_extract, Array.toList_extract, List.extract_eq_drop_take', ]


/-- v is a slice of n elements of sz cells each; its cells read as cs. -/
def Rd (w : World) (v : Value) (n sz : Nat) (cs : List Value) : Prop :=
  cs.length = n * sz ∧ ∃ ao cap, v = .slice ao n cap ∧ n ≤ cap ∧ (0 < n → ∃ b off, ao = some ⟨b, off, none⟩ ∧ b < w.heap.size ∧ ∀ j u, cs[j]? = some u → w.cell? ⟨b, off + j, none⟩ = some u)

theorem Rd.same {w w' : World} {v : Value} {n sz : Nat} {cs : List Value} (h : Rd w v n sz cs) {B : Nat} (hb : Below B w w') (hB : w.heap.size ≤ B) : Rd w' v n sz cs := by
  obtain ⟨h1, ao, cap, rfl, hcap, h2⟩ := h
  refine ⟨h1, ao, cap, rfl, hcap, fun hn => ?_⟩
  obtain ⟨b, off, rfl, hl, hc⟩ := h2 hn
  exact ⟨b, off, rfl, Nat.lt_of_lt_of_le hl hb.size, fun j u hu => (hb.cell (p := ⟨b, off + j, none⟩) (Nat.lt_of_lt_of_le hl hB)).trans (hc j u hu)⟩

theorem flat_get {α : Type} {f : α → List Value} {sz : Nat} (hsz : ∀ a, (f a).length = sz) : ∀ (l : List α) (i j : Nat) (hi : i < l.length), j < sz → (l.flatMap f)[i * sz + j]? = (f l[i])[j]? := by
  intro l
  induction l with
  | nil => intro i j hi; simp at hi
  | cons a r ih =>
    intro i j hi hj
    rw [List.flatMap_cons]
    cases i with
    | zero => rw [Nat.zero_mul, Nat.zero_add, List.getElem?_append_left (by rw [hsz]; exact hj)]; rfl
    | succ i =>
      rw [List.getElem?_append_right (by rw [hsz]; rw [Nat.succ_mul]; omega), hsz, show (i + 1) * sz + j - sz = i * sz + j by rw [Nat.succ_mul]; omega]
      exact ih i j (by simpa using hi) hj

theorem flat_length {α : Type} {f : α → List Value} {sz : Nat} (hsz : ∀ a, (f a).length = sz) (l : List α) : (l.flatMap f).length = l.length * sz := by
  induction l with
  | nil => simp
  | cons a r ih => rw [List.flatMap_cons, List.length_append, ih, hsz, List.length_cons, Nat.succ_mul]; omega

section
variable {H : Type} {enc : TypeId × Value → H} {P : Program} {w : World} {base : Nat} {spare : Nat → Bool} {held : Bool}

theorem rd_of_trod {α : Type} [Inhabited α] {t e : TypeId} {v : Value} {d : DataW H} {p : List MemPlace} {sz : Nat} (ht : P.underlying t = some (.slice e)) (hc : P.cellsOf e = sz) (hpos : 0 < sz)
    (cel : α → List Value) (dat : α → DataW H) (ok : α → Prop) (hsz : ∀ a, (cel a).length = sz)
    (hel : ∀ n cs x, DataW.trod enc P w base spare held n e cs = some x → ∃ a, cs = cel a ∧ x.1 = dat a ∧ ok a)
    (hv : ∃ a0 len cap, v = .slice a0 len cap) (h : DataW.Trod enc P w base spare held t v d p) :
    ∃ (l : List α), Rd w v l.length sz (l.flatMap cel) ∧ (∀ a ∈ l, ok a) ∧ ((d = .nil ∧ l = []) ∨ ∃ sp, d = .slice (l.map dat) sp) := by
  obtain ⟨a0, len0, cap0, rfl⟩ := hv
  obtain ⟨fuel, hf⟩ := h
  rcases open_slice ht hf with ⟨hcs, hx⟩ | ⟨a, len, cap, m, n, D, Pl, hcs, hb, hl, hm, hmm, hx, hall⟩
  · simp [Value.cells] at hcs
    obtain ⟨rfl, rfl, rfl⟩ := hcs
    simp only [Prod.mk.injEq] at hx
    exact ⟨[], ⟨by simp, none, 0, rfl, by simp, fun h => by simp at h⟩, by simp, .inl ⟨hx.1, rfl⟩⟩
  · simp [Value.cells] at hcs
    obtain ⟨rfl, rfl, rfl⟩ := hcs
    simp only [Prod.mk.injEq] at hx
    have hlm : len0 ≤ m := by rw [hmm]; split <;> omega
    obtain ⟨g, hg⟩ := choose_lt (n := len0) (p := fun i x => w.cells? base (a.add (i * P.cellsOf e)) (P.cellsOf e) = some (cel x) ∧ D i = dat x ∧ ok x) (fun i hi => by
      obtain ⟨cs', h1, h2⟩ := hall i (by omega)
      obtain ⟨x, rfl, hx', hok⟩ := hel _ _ _ h2
      exact ⟨x, h1, hx', hok⟩)
    refine ⟨(List.range len0).map g, ?_, ?_, .inr ⟨_, by rw [hx.1, List.map_map]; congr 1; exact List.map_congr_left fun i hi => (hg i (List.mem_range.1 hi)).2.1⟩⟩
    · have hlen : ((List.range len0).map g).length = len0 := by simp
      refine ⟨flat_length hsz _, some a, cap0, by rw [hlen], by rw [hlen]; exact hl, fun hn => ?_⟩
      rw [hlen] at hn
      obtain ⟨hc1, _, _⟩ := hg 0 hn
      obtain ⟨hbb, hl1, hcell⟩ := World.cells?_some hc1
      have h00 := hcell 0 (by omega)
      rw [List.getElem?_eq_getElem (by rw [hsz]; omega)] at h00
      have hspot : a.spot = none := by
        have := World.cell?_spot h00
        simpa [Addr.add] using this
      obtain ⟨b, off, spot⟩ := a
      simp only at hspot
      subst hspot
      have hadd : ∀ o k, (⟨b, o, none⟩ : Addr).add k = ⟨b, o + k, none⟩ := fun o k => by unfold Addr.add; split <;> simp_all
      refine ⟨b, off, rfl, ?_, fun j u hu => ?_⟩
      · rw [hadd, hadd] at h00
        exact World.block_lt_of_cell? w _ h00
      · have hjl : j < len0 * sz := by
          have := (List.getElem?_eq_some_iff.1 hu).1
          rwa [flat_length hsz, hlen] at this
        have hi : j / sz < len0 := Nat.div_lt_of_lt_mul (by rw [Nat.mul_comm]; exact hjl)
        have hr : j % sz < sz := Nat.mod_lt _ hpos
        have hj : j = j / sz * sz + j % sz := by rw [Nat.mul_comm]; exact (Nat.div_add_mod j sz).symm
        rw [hj, flat_get hsz _ _ _ (by rw [hlen]; exact hi) hr] at hu
        obtain ⟨hc2, _, _⟩ := hg (j / sz) hi
        obtain ⟨_, _, hcell2⟩ := World.cells?_some hc2
        have h2 := hcell2 (j % sz) (by omega)
        rw [hadd, hadd] at h2
        rw [hc] at h2
        rw [hj, ← Nat.add_assoc, h2, ← hu]
        simp
    · intro x hx'
      simp only [List.mem_map, List.mem_range] at hx'
      obtain ⟨i, hi, rfl⟩ := hx'
      exact (hg i hi).2.2
end

end Go.Proofs.YtlhppbendpnkeaaGreatDoor
/- told: how a byte is told. -/
namespace Go.Proofs.YtlhppbendpnkeaaGreatDoor
set_option linter.unusedSimpArgs false
set_option linter.unusedVariables false
open Go.RowKit

theorem bl_alloc (w : World) (o : Obj) : Below w.heap.size w (w.alloc o) := (Below.refl _ _).alloc (Nat.le_refl _) o

/-- The table of the bytes' letters stands. -/
def Sh (w : World) : Prop := ∀ i, i < 14 → w.cell? ⟨0, i, none⟩ = some (.int .u8 ((shortB i).toNat : Int))

theorem conv_lit (w : World) (l : List UInt8) (C : Array Value) (n : Nat) (hn : l.length = n) (hC : (l.map (fun b => Value.int .u8 (b.toNat : Int))).toArray = C) :
    (convert 44 9 (.slice (some ⟨w.heap.size, 0, none⟩) n n)).run Tryz.prog (w.alloc (.cells C 5)) = .ok (.string ⟨l.toArray⟩) (w.alloc (.cells C 5)) := by
  subst hn hC
  refine run_convert_bytes_back _ 44 9 5 _ _ l Tryz.underlying44 Tryz.underlying5 Tryz.underlying9 (fun j hj => ?_)
  have e : (⟨w.heap.size, 0, none⟩ : Addr).add j = ⟨w.heap.size, j, none⟩ := by unfold Addr.add; split <;> simp_all
  rw [e, World.cell?_alloc_mark]
  simp [hj]

theorem oct0 (c : UInt8) : (((48 : UInt8) + (c >>> 6)).toNat : Int) = 48 + (c.toNat : Int) / 64 := by
  have hc := c.toNat_lt
  simp [UInt8.toNat_add, UInt8.toNat_shiftRight, Nat.shiftRight_eq_div_pow]
  omega
theorem oct1 (c : UInt8) : (((48 : UInt8) + ((c >>> 3) &&& 7)).toNat : Int) = 48 + (c.toNat : Int) / 8 % 8 := by
  have hc := c.toNat_lt
  have e := Nat.and_two_pow_sub_one_eq_mod (c.toNat / 8) 3
  simp at e
  simp [UInt8.toNat_add, UInt8.toNat_shiftRight, Nat.shiftRight_eq_div_pow, e]
  omega
theorem oct2 (c : UInt8) : (((48 : UInt8) + (c &&& 7)).toNat : Int) = 48 + (c.toNat : Int) % 8 := by
  have hc := c.toNat_lt
  have e := Nat.and_two_pow_sub_one_eq_mod c.toNat 3
  simp at e
  simp [UInt8.toNat_add, e]
  omega
end Go.Proofs.YtlhppbendpnkeaaGreatDoor
/- told: how a byte is told. -/
namespace Go.Proofs.YtlhppbendpnkeaaGreatDoor
set_option linter.unusedSimpArgs false
set_option linter.unusedVariables false
open Go.RowKit

theorem shortB_lt : ∀ i, shortB i ≠ 0 → i < 14 := by
  intro i h
  rcases Nat.lt_or_ge i 14 with h1 | h1
  · exact h1
  · exfalso; apply h
    unfold shortB
    split <;> first | rfl | omega
theorem shortB_ge {i : Nat} (h : 14 ≤ i) : shortB i = 0 := by
  rcases Decidable.em (shortB i = 0) with e | e
  · exact e
  · have := shortB_lt i e; omega

set_option maxRecDepth 8000 in
set_option maxHeartbeats 3200000 in
theorem told_any (c : UInt8) (w : World) (hs : Sh w) :
    Calls Tryz.prog 29 #[.int .u8 (c.toNat : Int)] w fun e w' => e = .returned (.string ⟨(toldB c).toArray⟩) ∧ Below w.heap.size w w' := by
  have hc : c.toNat < 256 := c.toNat_lt
  have o0 := oct0 c
  have o1 := oct1 c
  have o2 := oct2 c
  have HV4 := Lib.hid (fun W => conv_lit W [92, (48 : UInt8) + (c >>> 6), (48 : UInt8) + ((c >>> 3) &&& 7), (48 : UInt8) + (c &&& 7)] #[.int .u8 92, .int .u8 (48 + (c.toNat : Int) / 64), .int .u8 (48 + (c.toNat : Int) / 8 % 8), .int .u8 (48 + (c.toNat : Int) % 8)] 4 rfl (by simp only [List.map, o0, o1, o2]; rfl))
  have HV1 := Lib.hid (fun W => conv_lit W [c] #[.int .u8 (c.toNat : Int)] 1 rfl (by simp))
  have HV2 := Lib.hid (fun W => conv_lit W [92, shortB c.toNat] #[.int .u8 92, .int .u8 ((shortB c.toNat).toNat : Int)] 2 rfl (by simp))
  clear o0 o1 o2
  by_cases h92 : c = 92
  · subst h92
    clear HV1 HV2 HV4
    go_enter Tryz.func29, Tryz.ntmps29
    go_wp2_with fail
    go_ret
    exact ⟨rfl, Below.refl _ _⟩
  · have h92' : ¬ c.toNat = 92 := fun e => h92 (by rw [← UInt8.toNat_inj]; exact e)
    have h92i : ((c.toNat : Int) == 92) = false := by simpa using (by omega : ¬ (c.toNat : Int) = 92)
    have l32 : c < 32 ↔ c.toNat < 32 := by rw [UInt8.lt_iff_toNat_lt]; rfl
    have l127 : 127 ≤ c ↔ 127 ≤ c.toNat := by rw [UInt8.le_iff_toNat_le]; rfl
    by_cases hsh : shortB c.toNat = 0
    · have HT4 : c.toNat < 32 ∨ 127 ≤ c.toNat → toldB c = ([92, (48 : UInt8) + (c >>> 6), (48 : UInt8) + ((c >>> 3) &&& 7), (48 : UInt8) + (c &&& 7)] : List UInt8) := fun h => by
        unfold toldB; rw [if_neg h92, if_neg (by simp [hsh]), if_pos (by rw [l32, l127]; exact h)]
      have HT1 : ¬ (c.toNat < 32 ∨ 127 ≤ c.toNat) → toldB c = [c] := fun h => by
        unfold toldB; rw [if_neg h92, if_neg (by simp [hsh]), if_neg (by rw [l32, l127]; exact h)]
      replace HT4 := Lib.hid HT4
      replace HT1 := Lib.hid HT1
      have hcell := hs c.toNat
      rw [hsh] at hcell
      by_cases h14 : c.toNat < 14
      · replace hcell := hcell h14
        have hcell0 : w.cell? ⟨0, c.toNat, none⟩ = some (.int .u8 0) := hcell
        have h14i : (c.toNat : Int) < 14 := by omega
        have d14 : decide ((c.toNat : Int) < 14) = true := decide_eq_true h14i
        have h32i : (c.toNat : Int) < 32 := by omega
        have d32 : decide ((c.toNat : Int) < 32) = true := decide_eq_true h32i
        have v4 := HV4.out w
        clear hcell HV1 HV2 HV4 l32 l127 hsh
        go_enter Tryz.func29, Tryz.ntmps29
        go_wp2_with fail
        go_ret
        rw [HT4.out (by omega)]
        exact ⟨rfl, bl_alloc _ _⟩
      · clear hcell
        have h14i : ¬ (c.toNat : Int) < 14 := by omega
        have d14 : decide ((c.toNat : Int) < 14) = false := decide_eq_false h14i
        have v4 := HV4.out w
        have v1 := HV1.out w
        by_cases h4 : c.toNat < 32 ∨ 127 ≤ c.toNat
        · clear HV1 HV2 HV4 l32 l127 hsh v1
          by_cases h5 : c.toNat < 32
          · have d5 : decide ((c.toNat : Int) < 32) = true := decide_eq_true (by omega)
            go_enter Tryz.func29, Tryz.ntmps29
            go_wp2_with fail
            go_ret
            rw [HT4.out h4]
            exact ⟨rfl, bl_alloc _ _⟩
          · have d5 : decide ((c.toNat : Int) < 32) = false := decide_eq_false (by omega)
            have d6 : decide (127 ≤ (c.toNat : Int)) = true := decide_eq_true (by omega)
            go_enter Tryz.func29, Tryz.ntmps29
            go_wp2_with fail
            go_ret
            rw [HT4.out h4]
            exact ⟨rfl, bl_alloc _ _⟩
        · have e32 : ¬ (c.toNat : Int) < 32 := by omega
          have e127 : ¬ 127 ≤ (c.toNat : Int) := by omega
          have d32 : decide ((c.toNat : Int) < 32) = false := decide_eq_false e32
          have d127 : decide (127 ≤ (c.toNat : Int)) = false := decide_eq_false e127
          clear HV1 HV2 HV4 l32 l127 hsh v4
          go_enter Tryz.func29, Tryz.ntmps29
          go_wp2_with fail
          go_ret
          rw [HT1.out h4]
          exact ⟨rfl, bl_alloc _ _⟩
    · have h14 := shortB_lt _ hsh
      have hcell := hs c.toNat h14
      have h14i : (c.toNat : Int) < 14 := by omega
      have d14 : decide ((c.toNat : Int) < 14) = true := decide_eq_true h14i
      have HT2 := Lib.hid (show toldB c = [92, shortB c.toNat] by unfold toldB; rw [if_neg h92, if_pos hsh])
      have v2 := HV2.out w
      have hne : ¬ ((shortB c.toNat).toNat : Int) = 0 := fun e => hsh (by rw [← UInt8.toNat_inj]; simp; omega)
      have hne' : (((shortB c.toNat).toNat : Int) != 0) = true := by simpa using hne
      clear HV1 HV2 HV4 l32 l127 hsh
      generalize ((shortB c.toNat).toNat : Int) = z at *
      go_enter Tryz.func29, Tryz.ntmps29
      go_wp2_with fail
      go_ret
      rw [HT2.out]
      exact ⟨rfl, bl_alloc _ _⟩
end Go.Proofs.YtlhppbendpnkeaaGreatDoor
