/- Behind. -/
import Derived.Test.YtlckloeeimilhaaQ
import Derived.Deep.DeepCutAuto
import Derived.Deep.CutBlock
import Derived.Deep.QuietTactic
import Derived.BigQuiet
namespace Go.Proofs.Ytlckloeeimilhaa
set_option linter.unusedSimpArgs false
set_option linter.unusedVariables false
open Go.RowKit

/-- The cheap steps of a quiet walk serve for a still one. -/
theorem still_of_quiet {P : Program} {o : Oper} {a : Act} {w : World} {K : Act → Prop} (h : o.quiet P a (fun w' => w' = w) K) : o.still P a w K := by
  obtain ⟨v, h1, h2⟩ := h
  have h3 := h1 w rfl
  unfold Oper.quietAt at h3
  unfold Oper.still
  generalize (execOp a.eval o).run P w = r at *
  cases r with
  | ok n w' =>
    cases n with
    | value u => obtain ⟨rfl, rfl⟩ := h3; exact ⟨rfl, h2⟩
    | skip => obtain ⟨rfl, rfl⟩ := h3; exact ⟨rfl, h2⟩
    | enter f args => obtain ⟨rfl, hc⟩ := h3; exact ⟨rfl, v, hc, h2⟩
    | _ => exact h3.elim
  | halt x w' => exact h3.elim
theorem wpStill_of_quiet {P : Program} {ops : Array Oper} {w : World} {Q : Act → Prop} : ∀ (l : List Oper) (a : Act), wpQuiet P ops (fun w' => w' = w) Q l a → wpStill P ops w Q l a := by
  intro l
  induction l with
  | nil => intro a h; exact h
  | cons o r ih =>
    intro a h
    unfold wpQuiet at h
    unfold wpStill
    split at h
    · rename_i hw
      rw [if_pos hw]
      exact Oper.still_mono (fun a' h' => ih a' h') (still_of_quiet h)
    · rename_i hw
      rw [if_neg hw]
      exact ih _ h

theorem bne_cast (a b : Nat) : ((a : Int) != (b : Int)) = (a != b) := by
  by_cases h : a = b
  · subst h; simp
  · have h2 : ((a : Int) == (b : Int)) = false := by
      simp only [beq_eq_false_iff_ne, ne_eq]; omega
    have h3 : (a == b) = false := by simpa using h
    simp only [bne, h2, h3]
/-- What an input tells. -/
structure BS where
  err : Int
  last : Bool
  num : Nat
  at_ : Nat
  fresh : Bool
  passed : Bool
  data : ByteArray
  asked : Nat
  lt : ByteArray
  lw : Bool
  found : Bool
abbrev BS.cells (b : BS) : Array Value := #[.int .i64 b.err, .bool b.last, .int .i64 (b.num : Int), .int .i64 (b.at_ : Int), .bool b.fresh, .bool b.passed, .string b.data, .int .i64 (b.asked : Int), .string b.lt, .bool b.lw, .bool b.found]
abbrev BS.val (b : BS) : Value := .agg b.cells
def bs0 : BS := ⟨0, false, 0, 0, false, false, ⟨#[]⟩, 0, ⟨#[]⟩, false, false⟩

def aske (I : List Item) (E n t : Nat) : Nat := if h : t < I.length then I[t].2.1 + 1 else if E < n then E + 1 else n
def erre (I : List Item) (E : Nat) (tl : List Tl) (t : Nat) : Int := if t < I.length then 0 else if h : E < tl.length then tl[E].2 else 0
def passe (tl : List Tl) (n : Nat) : Bool := (tl.take n).any (fun d => d.2 == 31)
def cntE (sep : Bool) (now : Nat) (I : List Item) : Nat := (I.filter (fun x => !sep || x.2.1 == now)).length
theorem cntE_succ (sep : Bool) (now : Nat) (I : List Item) (i : Nat) (h : i < I.length) : cntE sep now (I.take (i + 1)) = if (!sep || I[i].2.1 == now) = true then cntE sep now (I.take i) + 1 else cntE sep now (I.take i) := by
  unfold cntE
  rw [List.take_succ_eq_append_getElem h, List.filter_append, List.length_append]
  by_cases hk : (!sep || I[i].2.1 == now) = true
  · rw [if_pos hk, List.filter_cons_of_pos (by exact hk)]; rfl
  · rw [if_neg hk, List.filter_cons_of_neg (by exact hk)]; rfl
theorem cntE_le (sep : Bool) (now : Nat) (I : List Item) : cntE sep now I ≤ I.length := List.length_filter_le _ _
/-- What Behind answers. -/
def behB (tl : List Tl) (t : Nat) (sep : Bool) : BS :=
  let I := itemsE 0 tl
  let E := endE 0 tl
  let b : BS := { bs0 with err := erre I E tl t, asked := aske I E tl.length t, passed := passe tl (aske I E tl.length t), found := decide (t < I.length) }
  if h : 0 < t ∧ t ≤ I.length then
    let x := I[t - 1]
    { b with lt := x.1.1, lw := x.1.2, at_ := x.2.1, data := (tl[x.2.1]?.map (·.1)).getD ⟨#[]⟩,
             last := decide (t = I.length) || (sep && (I[t]?.map (fun y => y.2.1 != x.2.1)).getD false),
             fresh := decide (1 < t) && (I[t - 2]?.map (fun y => y.2.1 != x.2.1)).getD false,
             num := cntE sep x.2.1 (I.take t) }
  else b

theorem behB_pos {tl : List Tl} {t : Nat} {sep : Bool} {I : List Item} {E A : Nat} {R : Int} {s : Nat} {lt : ByteArray} {lb : Bool} {kk mm : Nat} {dd : ByteArray} {LB FB : Bool} (hI : itemsE 0 tl = I) (hE : endE 0 tl = E) (hA : aske I E tl.length t = A) (hR : erre I E tl t = R) (hs : t = s + 1) (hsI : s < I.length) (hx : I[s] = ((lt, lb), kk, mm)) (hdd : tl[kk]? = some (dd, 0))
    (hLB : (decide (t = I.length) || (sep && (I[t]?.map (fun y => y.2.1 != kk)).getD false)) = LB) (hFB : (decide (1 < t) && (I[t - 2]?.map (fun y => y.2.1 != kk)).getD false) = FB) :
    behB tl t sep = { bs0 with err := R, asked := A, passed := passe tl A, found := decide (t < I.length), lt := lt, lw := lb, at_ := kk, data := dd, last := LB, fresh := FB, num := cntE sep kk (I.take t) } := by
  have e : ∀ h : t - 1 < I.length, I[t - 1] = ((lt, lb), kk, mm) := fun h => by
    rw [← hx]; congr 1; omega
  unfold behB
  simp only [hI, hE, hA, hR]
  rw [dif_pos ⟨by omega, by omega⟩]
  simp only [e, hdd, hLB, hFB]
  rfl
theorem itemsE_in : ∀ (tl : List Tl) (k : Nat), ∀ x ∈ itemsE k tl, k ≤ x.2.1 ∧ x.2.1 < k + tl.length ∧ ∃ d, tl[x.2.1 - k]? = some (d, 0) := by
  intro tl
  induction tl with
  | nil => intro k x hx; simp [itemsE] at hx
  | cons a r ih =>
    obtain ⟨d, e⟩ := a
    intro k x hx
    rw [itemsE] at hx
    have step : x ∈ itemsE (k + 1) r → k ≤ x.2.1 ∧ x.2.1 < k + (r.length + 1) ∧ ∃ d', ((d, e) :: r)[x.2.1 - k]? = some (d', 0) := fun h => by
      obtain ⟨h1, h2, d', h3⟩ := ih (k + 1) x h
      refine ⟨by omega, by omega, d', ?_⟩
      rw [show x.2.1 - k = (x.2.1 - (k + 1)) + 1 by omega, List.getElem?_cons_succ]; exact h3
    split at hx
    · simpa using step hx
    split at hx
    · rename_i h0
      rcases List.mem_append.1 hx with hx | hx
      · obtain ⟨i, hi, rfl⟩ := List.mem_iff_getElem.1 hx
        have := itemsOf_get k (splitL d) 0 i (by rwa [itemsOf_length] at hi)
        rw [List.getElem?_eq_getElem hi] at this
        simp only [Option.some.injEq] at this
        rw [this]
        exact ⟨Nat.le_refl _, by simp, d, by subst h0; simp⟩
      · simpa using step hx
    · simp at hx
theorem endE_le : ∀ (tl : List Tl) (k : Nat), endE k tl ≤ k + tl.length := by
  intro tl
  induction tl with
  | nil => intro k; simp [endE]
  | cons a r ih =>
    obtain ⟨d, e⟩ := a
    intro k
    have := ih (k + 1)
    rw [endE, List.length_cons]
    split
    · omega
    split
    · omega
    · omega
theorem aske_le (tl : List Tl) (t : Nat) : aske (itemsE 0 tl) (endE 0 tl) tl.length t ≤ tl.length := by
  unfold aske
  split
  · rename_i h
    have := itemsE_in tl 0 _ (List.getElem_mem h)
    omega
  split <;> omega
theorem passe_succ (tl : List Tl) (j : Nat) (h : j < tl.length) : passe tl (j + 1) = (passe tl j || (tl[j].2 == 31)) := by
  unfold passe
  rw [List.take_succ_eq_append_getElem h, List.any_append]; simp

def XB (w : World) (X : Nat) (b : BS) : Prop := w.heap[X]? = some (.cells b.cells 48 (0, 0))
theorem XB.set {w : World} {X : Nat} {b : BS} (h : XB w X b) (i : Nat) (v : Value) (b' : BS) (hc : b.cells.setIfInBounds i v = b'.cells) : XB (w.setCell ⟨X, i, none⟩ v) X b' ∧ Fr (fun k => k = X) w (w.setCell ⟨X, i, none⟩ v) := by
  refine ⟨?_, (Fr.refl (fun k => k = X) w).setCell (p := ⟨X, i, none⟩) rfl v⟩
  unfold XB
  rw [heap_setCell_same _ _ _ _ _ _ _ h, hc]

/-- The worlds of Behind: only block X has turned. -/
structure BW (w2 : World) (X : Nat) (b : BS) (W : World) : Prop where
  fr : Fr (fun k => k = X) w2 W
  blk : XB W X b
theorem BW.set {w2 W : World} {X : Nat} {b : BS} (h : BW w2 X b W) (i : Nat) (v : Value) (b' : BS) (hc : b.cells.setIfInBounds i v = b'.cells) : BW w2 X b' (W.setCell ⟨X, i, none⟩ v) := by
  obtain ⟨h1, h2⟩ := h.blk.set i v b' hc
  exact ⟨h.fr.trans h2 (fun _ _ e => e), h1⟩
theorem BW.to {w2 W W' : World} {X : Nat} {b : BS} (h : BW w2 X b W) (hb : Below W.heap.size W W') : BW w2 X b W' :=
  ⟨h.fr.trans (Fr.ofBelow (fun _ => False) hb) (fun _ _ e => e.elim), (hb.block _ (lt_of_block h.blk)).trans h.blk⟩

/-- What Behind may lean on. -/
structure BK (w2 : World) (X : Nat) (v : Value) (tl : List Tl) (uo : Option Addr) (uc : Nat) (I : List Item) (B : Nat) : Prop where
  tv : Tv w2 v tl
  row : Is w2 B (.slice uo I.length uc) I
  tvx : ∀ b off n c, v = .slice (some ⟨b, off, none⟩) n c → 0 < n → b ≠ X
  bx : ∃ b, XB w2 X b
theorem BK.tl {w2 W : World} {X B : Nat} {ao : Option Addr} {n cap : Nat} {tl : List Tl} {uo : Option Addr} {uc : Nat} {I : List Item} {b : BS} (h : BK w2 X (.slice ao n cap) tl uo uc I B) (hw : BW w2 X b W) (hn : 0 < tl.length) :
    ∃ g off, ao = some ⟨g, off, none⟩ ∧ ∀ i (hi : i < tl.length), W.cell? ⟨g, off + i * 2, none⟩ = some (.string tl[i].1) ∧ W.cell? ⟨g, off + i * 2 + 1, none⟩ = some (.int .i64 tl[i].2) := by
  obtain ⟨_, _, e1, _, hc⟩ := h.tv
  simp only [Value.slice.injEq] at e1
  obtain ⟨rfl, rfl, rfl⟩ := e1
  obtain ⟨g, off, rfl, hl, hcc⟩ := hc hn
  have hne := h.tvx g off _ _ rfl hn
  have hb := hw.fr.block g hl hne
  exact ⟨g, off, rfl, fun i hi => ⟨(World.cell?_of_block hb).trans (hcc i hi).1, (World.cell?_of_block hb).trans (hcc i hi).2⟩⟩
theorem BK.it {w2 W : World} {X B : Nat} {v : Value} {tl : List Tl} {uo : Option Addr} {uc : Nat} {I : List Item} {b : BS} (h : BK w2 X v tl uo uc I B) (hw : BW w2 X b W) (hn : 0 < I.length) :
    ∃ g, uo = some ⟨g, 0, none⟩ ∧ ∀ i (hi : i < I.length), W.cell? ⟨g, i * 3, none⟩ = some (.string I[i].1.1) ∧ W.cell? ⟨g, i * 3 + 1, none⟩ = some (.bool I[i].1.2) ∧ W.cell? ⟨g, i * 3 + 2, none⟩ = some (.int .i64 (I[i].2.1 : Int)) := by
  obtain ⟨b', hb'⟩ := h.bx
  have hx2 : ∀ g, (Value.slice uo I.length uc).ownBlock = some g → g ≠ X := fun g hg e => by
    subst e
    exact row_ne h.row hb' (by decide) hg
  have hr := row_fr hw.fr h.row (fun g hg e => hx2 g hg e)
  obtain ⟨_, _, e1, _, hc⟩ := row_shape hr
  simp only [Value.slice.injEq, true_and] at e1
  obtain ⟨rfl, rfl⟩ := e1
  obtain ⟨g, rfl, hcc⟩ := hc hn
  refine ⟨g, rfl, fun i hi => ?_⟩
  obtain ⟨c1, c2, c3⟩ := icells_get I i hi
  exact ⟨hcc _ _ c1, hcc _ _ c2, hcc _ _ c3⟩
end Go.Proofs.Ytlckloeeimilhaa
