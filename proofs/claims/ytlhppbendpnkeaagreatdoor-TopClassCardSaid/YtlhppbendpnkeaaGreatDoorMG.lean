/- Texts of one chain, merged by a small program (CA, CB). -/
import Derived.Test.YtlhppbendpnkeaaGreatDoorM
import Derived.MapKept
import Derived.OrdersHeld
import Derived.Test.YtlhppbendpnkeaaGreatDoorZK
/- A region in whatever order, by what holds between its operations; a map with texts for keys that is filled in whatever order. -/
namespace Go.Proofs.YtlhppbendpnkeaaGreatDoor
set_option linter.unusedSimpArgs false
set_option linter.unusedVariables false
open Go.RowKit Go.MapKept

section
variable {P : Program} {ops : Array Oper} {Q : Exit → Act → World → Prop} {md : Region.Mode}
theorem count_set : ∀ (l : List Bool) (i : Nat), l[i]? = some false → (l.set i true).countP (· == false) + 1 = l.countP (· == false) := by
  intro l
  induction l with
  | nil => intro i h; simp at h
  | cons b l ih =>
    intro i h
    cases i with
    | zero => simp only [List.getElem?_cons_zero, Option.some.injEq] at h; subst h; simp
    | succ i =>
      simp only [List.getElem?_cons_succ] at h
      have := ih i h
      rw [List.set_cons_succ, List.countP_cons, List.countP_cons]; omega
theorem wpAny_inv (I : Array Bool → Act → World → Prop)
    (hstep : ∀ listed a w i, listed.size = ops.size → I listed a w → i ∈ Region.ready md ops listed → wpOp P ops Q i (fun a' w' => I (listed.setIfInBounds i true) a' w') a w)
    (hend : ∀ listed a w, listed.size = ops.size → Region.ready md ops listed = [] → I listed a w → Q .normal a w) :
    ∀ (fuel : Nat) (listed : Array Bool) (a : Act) (w : World), listed.size = ops.size → listed.toList.countP (· == false) = fuel → I listed a w → wpAny P md ops Q fuel listed a w := by
  intro fuel
  induction fuel with
  | zero =>
    intro listed a w hs hc hI
    have hr : Region.ready md ops listed = [] := by
      cases h : Region.ready md ops listed with
      | nil => rfl
      | cons i r =>
        have hi : i ∈ Region.ready md ops listed := by rw [h]; exact List.mem_cons_self ..
        obtain ⟨h1, o, h2, _⟩ := mem_ready.1 hi
        have hlt : i < listed.size := by rw [hs]; exact (Array.getElem?_eq_some_iff.1 h2).1
        have h3 : listed[i] = false := by simpa [hlt] using h1
        have := List.countP_eq_zero.1 hc (listed[i]) (by simp)
        rw [h3] at this; exact absurd rfl this
    exact ⟨hr, hend _ _ _ hs hr hI⟩
  | succ fuel ih =>
    intro listed a w hs hc hI
    refine ⟨fun h => hend _ _ _ hs h hI, fun i hi => ?_⟩
    refine wpOp_mono (fun a' w' h => ih _ a' w' (by simpa using hs) ?_ h) (hstep _ _ _ _ hs hI hi)
    obtain ⟨h1, o, h2, _⟩ := mem_ready.1 hi
    have hlt : i < listed.size := by rw [hs]; exact (Array.getElem?_eq_some_iff.1 h2).1
    have h3 : listed.toList[i]? = some false := by
      have : listed[i] = false := by simpa [hlt] using h1
      simp [hlt, this]
    have := count_set _ _ h3
    rw [Array.toList_setIfInBounds]; omega
def backB (ops : Array Oper) : Bool := (List.range ops.size).all fun i => ((ops[i]?).map (·.after.all fun e => decide (e.on < i))).getD true
theorem all_listed (hb : backB ops = true) {listed : Array Bool} (hs : listed.size = ops.size) (hr : Region.ready md ops listed = []) : ∀ i, i < ops.size → listed.getD i false = true := by
  intro i
  induction i using Nat.strongRecOn with
  | ind i ih =>
    intro hi
    have hio : ops[i]? = some ops[i] := Array.getElem?_eq_getElem hi
    cases h : listed.getD i true with
    | true => simpa [hs, hi] using h
    | false =>
      have hmem : i ∈ Region.ready md ops listed := by
        refine mem_ready.2 ⟨h, _, hio, fun e he _ => ih e.on ?_ ?_⟩
        · have h1 := List.all_eq_true.1 hb i (by simpa using hi)
          rw [hio] at h1
          simp only [Option.map_some, Option.getD_some] at h1
          have h2 := (Array.all_eq_true_iff_forall_mem.1 h1) e he
          simpa using h2
        · have h1 := List.all_eq_true.1 hb i (by simpa using hi)
          rw [hio] at h1
          simp only [Option.map_some, Option.getD_some] at h1
          have h2 := (Array.all_eq_true_iff_forall_mem.1 h1) e he
          have : e.on < i := by simpa using h2
          omega
      rw [hr] at hmem; cases hmem
def depB (md : Region.Mode) (ops : Array Oper) (i j : Nat) : Bool := ((ops[i]?).map (·.after.any fun e => Region.binds md e && e.on == j)).getD false
theorem ready_dep {listed : Array Bool} {i j : Nat} (h : i ∈ Region.ready md ops listed) (hd : depB md ops i j = true) : listed.getD j false = true := by
  obtain ⟨_, o, ho, hall⟩ := mem_ready.1 h
  unfold depB at hd
  rw [ho] at hd
  simp only [Option.map_some, Option.getD_some, Array.any_eq_true, Bool.and_eq_true, beq_iff_eq] at hd
  obtain ⟨k, hk, h1, h2⟩ := hd
  have := hall _ (Array.getElem_mem hk) h1
  rwa [h2] at this
end

/-- The text alnum. -/
def alnumS : ByteArray := { data := #[97, 108, 110, 117, 109] }
/-- The entries of a map of sets; what stands at alnum is the set al. -/
def MapOk (al : Nat → Bool) (es : Array MapEntry) : Prop := ∀ e ∈ es.toList, ∃ s f, e.key = .string s ∧ e.val = .agg (setC f) ∧ (s = alnumS → setC f = setC al)
theorem find_now {al : Nat → Bool} (s : ByteArray) : ∀ (l : List MapEntry) (i : Nat), (∀ e ∈ l, ∃ s f, e.key = .string s ∧ e.val = .agg (setC f) ∧ (s = alnumS → setC f = setC al)) →
    ∃ r, Instr.findNow .string (.string s) l i = some r ∧ (r = none ∨ ∃ j e, r = some (i + j, e.val) ∧ l[j]? = some e ∧ e.key = .string s) := by
  intro l
  induction l with
  | nil => intro i _; exact ⟨none, rfl, .inl rfl⟩
  | cons e l ih =>
    intro i h
    obtain ⟨s', f, hk, hv, _⟩ := h e (List.mem_cons_self ..)
    unfold Instr.findNow
    rw [hk]
    by_cases hs : s = s'
    · subst hs
      have : Instr.sameNow .string (.string s) (.string s) = some true := by simp only [Instr.sameNow]; rw [(bytes_beq s s).2 rfl]
      simp only [this]
      exact ⟨_, rfl, .inr ⟨0, e, by simp, rfl, hk⟩⟩
    · have : Instr.sameNow .string (.string s) (.string s') = some false := by
        simp only [Instr.sameNow]
        cases hc : s == s' with
        | false => rfl
        | true => exact absurd ((bytes_beq s s').1 hc) hs
      simp only [this]
      obtain ⟨r, h1, h2⟩ := ih (i + 1) (fun e he => h e (List.mem_cons_of_mem _ he))
      refine ⟨r, h1, h2.imp id ?_⟩
      rintro ⟨j, e', rfl, h3, h4⟩
      exact ⟨j + 1, e', by rw [show i + 1 + j = i + (j + 1) by omega], by simpa using h3, h4⟩

theorem under144 : Tryz.prog.underlying 144 = some (.map 9 24) := by kernel_rfl
theorem run_insert {al f : Nat → Bool} {w : World} {B ck : Nat} {es : Array MapEntry} (s : ByteArray) (hb : w.heap[B]? = some (.map es ck)) (hok : MapOk al es) (hs : s = alnumS → setC f = setC al) :
    ∃ es' ck', (Instr.mapUpdate 144 (.map (some B)) (.string s) (.agg (setC f))).run Tryz.prog w = .ok () { w with heap := w.heap.setIfInBounds B (.map es' ck') } ∧ MapOk al es' := by
  obtain ⟨r, h1, h2⟩ := find_now (al := al) s es.toList 0 hok
  have hf := MapKept.run_findKey (w := w) (P := Tryz.prog) Tryz.underlying9 h1
  rcases h2 with rfl | ⟨j, e, rfl, h3, h4⟩
  · refine ⟨es.push { key := .string s, val := .agg (setC f), born := ck }, ck + 1, ?_, ?_⟩
    · unfold Instr.mapUpdate
      simp only [Sem.run_bind, run_underlying under144, Result.andThen, MapKept.run_getObj_map hb, MapKept.run_checkKey Tryz.underlying9 (show IsKey .string (.string s) from by simp [IsKey]), hf, MapKept.run_setObj_map _ hb]
    · intro e he
      simp only [Array.toList_push, List.mem_append, List.mem_singleton] at he
      rcases he with he | rfl
      · exact hok e he
      · exact ⟨s, f, rfl, rfl, hs⟩
  · have hj : es[0 + j]? = some e := by simpa using h3
    have hj' : es[j]? = some e := by simpa using h3
    refine ⟨es.modify (0 + j) fun e => { e with key := .string s, val := .agg (setC f) }, ck, ?_, ?_⟩
    · unfold Instr.mapUpdate
      simp only [Sem.run_bind, run_underlying under144, Result.andThen, MapKept.run_getObj_map hb, MapKept.run_checkKey Tryz.underlying9 (show IsKey .string (.string s) from by simp [IsKey]), hf, hj, Option.map_some, Option.getD_some, h4, MapKept.run_keyThatStays (show IsKey .string (.string s) from by simp [IsKey]), MapKept.run_setObj_map _ hb]
    · intro e' he'
      rw [Array.toList_modify] at he'
      obtain ⟨k, hk⟩ := List.getElem?_of_mem he'
      rw [List.getElem?_modify] at hk
      by_cases hkj : 0 + j = k
      · subst hkj
        simp only [Nat.zero_add, h3, if_true, Option.map_eq_map, Option.map_some, Option.some.injEq] at hk
        subst hk
        exact ⟨s, f, rfl, rfl, hs⟩
      · have hkj' : ¬ j = k := by omega
        have hk' : es.toList[k]? = some e' := by
          cases hx : es.toList[k]? with
          | none => rw [hx] at hk; simp at hk
          | some y => rw [hx] at hk; simpa [hkj'] using hk
        exact hok e' (List.mem_of_getElem? hk')
end Go.Proofs.YtlhppbendpnkeaaGreatDoor
/- The map of the classes. -/
namespace Go.Proofs.YtlhppbendpnkeaaGreatDoor
set_option linter.unusedSimpArgs false
set_option linter.unusedVariables false
open Go.RowKit

section
variable {P : Program} {ops : Array Oper} {Q : Exit → Act → World → Prop} {K : Act → World → Prop} {a : Act} {w : World} {i : Nat} {o : Oper}
theorem wpOp_of (ho : ops[i]? = some o) (hg : o.guard = none) (h : o.wp P a w K Q) : wpOp P ops Q i K a w := by
  unfold wpOp
  rw [ho]
  simp only [Region.wanted, hg, if_true]
  exact .inl h
theorem wp_callf (n : Nat) (args : Array Operand) (ts : Array TypeId) (vs : Array Value) (hv : args.map a.eval = vs) (ho : o.op = .call { callee := .value (.func n), args := args, argTypes := ts })
    (hc : ∀ (vs : Array Value) (W : World), (callFunc n vs).run P W = .ok (.enter n vs) W)
    (h : Calls P n vs w fun e w' => ∃ v, e = .returned v ∧ K (a.put o.dst v) w') : o.wp P a w K Q := by
  subst hv
  unfold Oper.wp execOp
  rw [ho]
  simp [go_sem, resolve, Act.eval, invoke]
  rw [hc, Oper.upon_enter]
  refine h.mono ?_
  rintro e w' ⟨v, rfl, hk⟩
  exact hk
theorem wp_movef (x : Operand) (ho : o.op = .move x ∨ o.op = .assign x) (h : K (a.put o.dst (a.eval x)) w) : o.wp P a w K Q := by
  unfold Oper.wp execOp
  rcases ho with ho | ho <;> rw [ho] <;> exact h
theorem wp_makeMapf (t : TypeId) (ho : o.op = .makeMap t none) (h : K (a.put o.dst (.map (some w.heap.size))) (w.alloc (.map #[] 0))) : o.wp P a w K Q := by
  unfold Oper.wp execOp
  rw [ho]
  simp [go_sem, Instr.makeMap]
  exact h
theorem wp_insertf (t : TypeId) (m k x : Operand) {w' : World} (ho : o.op = .insert t m k x) (hr : (Instr.mapUpdate t (a.eval m) (a.eval k) (a.eval x)).run P w = .ok () w') (h : K (a.put o.dst undef) w') : o.wp P a w K Q := by
  unfold Oper.wp execOp
  simp only [ho, Sem.run_bind, Sem.run_pure, hr, Result.andThen_ok]
  exact h
theorem wp_buildSlicef (t : TypeId) (n : Nat) (ps : Array (Nat × Operand)) {v : Value} {w' : World} (ho : o.op = .buildSlice t n ps) (hr : (Instr.buildSlice t n (ps.map fun (i, x) => (i, a.eval x))).run P w = .ok v w') (h : K (a.put o.dst v) w') : o.wp P a w K Q := by
  unfold Oper.wp execOp
  simp only [ho, Sem.run_bind, Sem.run_pure, hr, Result.andThen_ok]
  exact h
theorem wp_convertf (t u : TypeId) (x : Operand) {v : Value} {w' : World} (ho : o.op = .convert t u x) (hr : (convert t u (a.eval x)).run P w = .ok v w') (h : K (a.put o.dst v) w') : o.wp P a w K Q := by
  unfold Oper.wp execOp
  simp only [ho, Sem.run_bind, Sem.run_pure, hr, Result.andThen_ok]
  exact h
end
end Go.Proofs.YtlhppbendpnkeaaGreatDoor
