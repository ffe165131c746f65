/- What the form's reach pays: bounds on a script and on items that came in. -/
import Derived.Test.YtbhepdlcnfcfgaaK
namespace Go.Proofs.Ytbhepdlcnfcfgaa
set_option linter.unusedSimpArgs false
set_option linter.unusedVariables false
open Go.RowKit Go.Deep Go.ChangeShapes Go.WideShapes

theorem weightsAll_mem {H : Type} {P : Program} {e : TypeId} {α : Type} {dat : α → DataW H} {l : List α} {a : α} (ha : a ∈ l) {n : Nat} (hn : n ∈ (dat a).weights P e) : n ∈ DataW.weightsAll P e (l.map dat) := by
  induction l with
  | nil => simp at ha
  | cons b r ih =>
    simp only [List.map_cons, DataW.weightsAll, List.mem_append]
    rcases List.mem_cons.1 ha with rfl | ha
    · exact .inl hn
    · exact .inr (ih ha)

theorem by35 : Try.prog.bytesOf 35 = 24 := by kernel_rfl
theorem by50 : Try.prog.bytesOf 50 = 48 := by kernel_rfl

section
variable {H : Type} {enc : TypeId × Value → H} {w : World} {base : Nat} {spare : Nat → Bool} {held : Bool}

theorem flat_items (l : List It) : l.flatMap itemCells = icells l := by
  induction l with
  | nil => rfl
  | cons a r ih => obtain ⟨k, t⟩ := a; rw [List.flatMap_cons, ih]; rfl

theorem open_script {v : Value} {d : DataW H} {p : List MemPlace} {m : Reach} {bs : Nat} (hok : Value.okWide Try.prog w m bs 46 v) (h : DataW.Trod enc Try.prog w base spare held 46 v d p)
    (hsz : ∀ n ∈ d.weights Try.prog 46, n ≤ reachBytes) :
    ∃ xs : List Stp, Script w v xs ∧ (∀ x ∈ xs, x.t.size ≤ 140737488355328 ∧ x.it.size ≤ 140737488355328 ∧ 0 ≤ x.ik ∧ x.ik ≤ 255) ∧ xs.length * 48 ≤ 140737488355328 := by
  obtain ⟨xs, hr, hall, hd⟩ := rd_of_trod Try.underlying46 c50 (by omega) stepCells stepDat (fun a => (Lit.int .i64 a.k).wf = true ∧ (Lit.int .u8 a.ik).wf = true ∧ a.t.size ≤ maxLen ∧ a.it.size ≤ maxLen) (fun _ => rfl) step_el (okWide_slice Try.underlying46 hok) h
  refine ⟨xs, hr, ?_, ?_⟩
  · intro x hx
    have hw := hall x hx
    rcases hd with ⟨_, rfl⟩ | ⟨sp, rfl⟩
    · simp at hx
    · have key : ∀ n ∈ (stepDat x : DataW H).weights Try.prog 50, n ≤ reachBytes := fun n hn => hsz n (by
        simp only [DataW.weights, Try.underlying46]
        exact List.mem_cons_of_mem _ (List.mem_append_left _ (weightsAll_mem hx hn)))
      have k1 := key x.t.data.toList.length (by simp [stepDat, DataW.weights, Try.underlying50, DataW.weightsEach])
      have k2 := key x.it.data.toList.length (by simp [stepDat, itemDat, DataW.weights, Try.underlying50, Try.underlying35, DataW.weightsEach])
      have hr := reachBytes_lt
      have e1 : x.t.data.toList.length = x.t.size := by simp
      have e2 : x.it.data.toList.length = x.it.size := by simp
      have hb := hw.2.1
      simp only [Lit.wf, Bool.and_eq_true, decide_eq_true_eq] at hb
      have hmin : IntKind.u8.min = 0 := rfl
      have hmax : IntKind.u8.max = 255 := rfl
      omega
  · rcases hd with ⟨_, rfl⟩ | ⟨sp, rfl⟩
    · simp
    · have k := hsz _ (by simp only [DataW.weights, Try.underlying46]; exact List.mem_cons_self ..)
      rw [by50] at k
      have hr := reachBytes_lt
      have : (xs.map (stepDat (H := H))).length = xs.length := by simp
      omega

theorem open_items {v : Value} {d : DataW H} {p : List MemPlace} {m : Reach} {bs : Nat} (hok : Value.okWide Try.prog w m bs 31 v) (h : DataW.Trod enc Try.prog w base spare held 31 v d p)
    (hsz : ∀ n ∈ d.weights Try.prog 31, n ≤ reachBytes) :
    ∃ l : List It, Rd w v l.length 2 (icells l) ∧ (∀ x ∈ l, x.2.size ≤ 140737488355328 ∧ 0 ≤ x.1 ∧ x.1 ≤ 255) ∧ l.length * 24 ≤ 140737488351232 := by
  obtain ⟨xs, hr, hall, hd⟩ := rd_of_trod Try.underlying31 c35 (by omega) itemCells itemDat (fun a => (Lit.int .u8 a.1).wf = true ∧ a.2.size ≤ maxLen) (fun _ => rfl) item_el (okWide_slice Try.underlying31 hok) h
  rw [flat_items] at hr
  refine ⟨xs, hr, ?_, ?_⟩
  · intro x hx
    have hw := hall x hx
    rcases hd with ⟨_, rfl⟩ | ⟨sp, rfl⟩
    · simp at hx
    · have key : ∀ n ∈ (itemDat x : DataW H).weights Try.prog 35, n ≤ reachBytes := fun n hn => hsz n (by
        simp only [DataW.weights, Try.underlying31]
        exact List.mem_cons_of_mem _ (List.mem_append_left _ (weightsAll_mem hx hn)))
      have k2 := key x.2.data.toList.length (by simp [itemDat, DataW.weights, Try.underlying35, DataW.weightsEach])
      have hr := reachBytes_lt
      have e2 : x.2.data.toList.length = x.2.size := by simp
      have hb := hw.1
      simp only [Lit.wf, Bool.and_eq_true, decide_eq_true_eq] at hb
      have hmin : IntKind.u8.min = 0 := rfl
      have hmax : IntKind.u8.max = 255 := rfl
      omega
  · rcases hd with ⟨_, rfl⟩ | ⟨sp, rfl⟩
    · simp
    · have k := hsz _ (by simp only [DataW.weights, Try.underlying31]; exact List.mem_cons_self ..)
      rw [by35] at k
      have : (xs.map (itemDat (H := H))).length = xs.length := by simp
      have hr : reachBytes = 140737488351232 := rfl
      omega
end
end Go.Proofs.Ytbhepdlcnfcfgaa
