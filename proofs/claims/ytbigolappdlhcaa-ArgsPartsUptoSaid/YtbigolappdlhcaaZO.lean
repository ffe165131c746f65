/- The script of pieces: plain laws. -/
import Derived.Test.YtbigolappdlhcaaZG
import Derived.Lib.JoinSame
namespace Go.Proofs.Ytbigolappdlhcaa
set_option linter.unusedSimpArgs false
set_option linter.unusedVariables false
open Go.RowKit

/-- The texts of a script. -/
def scrT : List Pc → List ByteArray → Option (List ByteArray)
  | [], [] => some []
  | [], _ :: _ => none
  | (false, t) :: r, fs => (scrT r fs).map (t :: ·)
  | (true, _) :: _, [] => none
  | (true, _) :: r, f :: fs => (scrT r fs).map (f :: ·)
def joinT (ts : List ByteArray) : ByteArray := ⟨(Lib.join (ts.map (·.data.toList)) [10]).toArray⟩
/-- What Script answers. -/
def scrA : Option (List ByteArray) → ByteArray × Int
  | none => (⟨#[]⟩, 2)
  | some ts => (joinT ts, 0)
def scrR (l : List Pc) (fs : List ByteArray) : ByteArray × Int := scrA (scrT l fs)

def sumS : List ByteArray → Nat
  | [] => 0
  | t :: r => t.size + 1 + sumS r
def sumP : List Pc → Nat
  | [] => 0
  | p :: r => p.2.size + 1 + sumP r
theorem sumS_append (a b : List ByteArray) : sumS (a ++ b) = sumS a + sumS b := by
  induction a with
  | nil => simp [sumS]
  | cons t r ih => simp [sumS, ih]; omega
theorem sumS_len (a : List ByteArray) : a.length ≤ sumS a ∧ ∀ t ∈ a, t.size ≤ sumS a := by
  induction a with
  | nil => simp [sumS]
  | cons t r ih =>
    refine ⟨by simp [sumS]; omega, fun x hx => ?_⟩
    rcases List.mem_cons.1 hx with rfl | hx
    · simp [sumS]; omega
    · have := ih.2 x hx; simp [sumS]; omega
theorem sumP_len (a : List Pc) : a.length ≤ sumP a ∧ ∀ t ∈ a, t.2.size ≤ sumP a := by
  induction a with
  | nil => simp [sumP]
  | cons t r ih =>
    refine ⟨by simp [sumP]; omega, fun x hx => ?_⟩
    rcases List.mem_cons.1 hx with rfl | hx
    · simp [sumP]; omega
    · have := ih.2 x hx; simp [sumP]; omega
theorem scrT_sum : ∀ (l : List Pc) (fs ts : List ByteArray), scrT l fs = some ts → sumS ts ≤ sumP l + sumS fs ∧ ts.length = l.length := by
  intro l
  induction l with
  | nil =>
    intro fs ts h
    cases fs with
    | nil => simp only [scrT, Option.some.injEq] at h; subst h; simp [sumS]
    | cons f fs => simp [scrT] at h
  | cons p r ih =>
    intro fs ts h
    obtain ⟨b, t⟩ := p
    cases b with
    | false =>
      simp only [scrT] at h
      cases hr : scrT r fs with
      | none => rw [hr] at h; simp at h
      | some q =>
        rw [hr] at h
        simp only [Option.map_some, Option.some.injEq] at h
        subst h
        have := ih fs q hr
        simp [sumS, sumP]; omega
    | true =>
      cases fs with
      | nil => simp [scrT] at h
      | cons f fs =>
        simp only [scrT] at h
        cases hr : scrT r fs with
        | none => rw [hr] at h; simp at h
        | some q =>
          rw [hr] at h
          simp only [Option.map_some, Option.some.injEq] at h
          subst h
          have := ih fs q hr
          simp [sumS, sumP]; omega
theorem join_len (ls : List (List UInt8)) : (Lib.join ls [10]).length ≤ (ls.map (fun x => x.length + 1)).sum := by
  induction ls with
  | nil => simp [Lib.join]
  | cons a r ih =>
    cases r with
    | nil => simp [Lib.join]
    | cons b r =>
      simp [Lib.join] at ih ⊢
      omega
theorem sumS_eq (ts : List ByteArray) : ((ts.map (·.data.toList)).map (fun x => x.length + 1)).sum = sumS ts := by
  induction ts with
  | nil => rfl
  | cons t r ih =>
    simp only [List.map_cons, List.sum_cons, sumS]
    rw [← ih]
    have : t.data.toList.length = t.size := by simp
    omega
theorem joinT_len (ts : List ByteArray) : (Lib.join (ts.map (·.data.toList)) [10]).length ≤ sumS ts := by
  have := join_len (ts.map (·.data.toList))
  rwa [sumS_eq] at this
theorem joinT_size (ts : List ByteArray) : (joinT ts).size ≤ sumS ts := by
  unfold joinT; rw [size_mk]; exact joinT_len ts
theorem join_snoc (a : List UInt8) (r : List (List UInt8)) (x : List UInt8) : Lib.join (a :: r ++ [x]) [10] = Lib.join (a :: r) [10] ++ (10 :: x) := by
  induction r generalizing a with
  | nil => simp [Lib.join]
  | cons b r ih =>
    have := ih b
    simp [Lib.join] at this ⊢
    exact this
theorem joinT_one (t : ByteArray) : joinT [t] = t := by
  apply ba_ext; simp [joinT, Lib.join]
theorem joinT_snoc (ts : List ByteArray) (t : ByteArray) (h : ts ≠ []) : joinT (ts ++ [t]) = (joinT ts ++ ⟨#[10]⟩) ++ t := by
  obtain ⟨a, r, rfl⟩ := List.exists_cons_of_ne_nil h
  apply ba_ext
  rw [ba_append, ba_append]
  have := join_snoc a.data.toList (r.map (·.data.toList)) t.data.toList
  simp [joinT] at this ⊢
  rw [this]
theorem join_app (a b : List (List UInt8)) (ha : a ≠ []) (hb : b ≠ []) : Lib.join (a ++ b) [10] = Lib.join a [10] ++ (10 :: Lib.join b [10]) := by
  induction a with
  | nil => exact absurd rfl ha
  | cons x r ih =>
    cases r with
    | nil =>
      obtain ⟨y, s, rfl⟩ := List.exists_cons_of_ne_nil hb
      simp [Lib.join]
    | cons y r =>
      have := ih (by simp)
      simp [Lib.join] at this ⊢
      exact this
theorem joinT_app (a b : List ByteArray) (ha : a ≠ []) (hb : b ≠ []) : joinT (a ++ b) = (joinT a ++ ⟨#[10]⟩) ++ joinT b := by
  apply ba_ext
  rw [ba_append, ba_append]
  have := join_app (a.map (·.data.toList)) (b.map (·.data.toList)) (by simpa using ha) (by simpa using hb)
  simp [joinT] at this ⊢
  rw [this]

/-- How many pieces are files. -/
def cntF : List Pc → Nat
  | [] => 0
  | p :: r => (if p.1 then 1 else 0) + cntF r
theorem cntF_snoc (l : List Pc) (p : Pc) : cntF (l ++ [p]) = cntF l + (if p.1 then 1 else 0) := by
  induction l with
  | nil => simp [cntF]
  | cons x r ih => simp [cntF, ih]; omega
theorem cntF_le (l : List Pc) : cntF l ≤ l.length := by
  induction l with
  | nil => simp [cntF]
  | cons x r ih => simp only [cntF, List.length_cons]; split <;> omega
theorem scrT_count : ∀ (l : List Pc) (fs : List ByteArray), (cntF l = fs.length ∧ ∃ ts, scrT l fs = some ts) ∨ (cntF l ≠ fs.length ∧ scrT l fs = none) := by
  intro l
  induction l with
  | nil =>
    intro fs
    cases fs with
    | nil => exact .inl ⟨rfl, _, rfl⟩
    | cons f fs => exact .inr ⟨by simp [cntF], rfl⟩
  | cons p r ih =>
    intro fs
    obtain ⟨b, t⟩ := p
    cases b with
    | false =>
      rcases ih fs with ⟨h1, ts, h2⟩ | ⟨h1, h2⟩
      · exact .inl ⟨by simpa [cntF] using h1, t :: ts, by simp [scrT, h2]⟩
      · exact .inr ⟨by simpa [cntF] using h1, by simp [scrT, h2]⟩
    | true =>
      cases fs with
      | nil => exact .inr ⟨by simp [cntF], rfl⟩
      | cons f fs =>
        rcases ih fs with ⟨h1, ts, h2⟩ | ⟨h1, h2⟩
        · exact .inl ⟨by simp [cntF, h1]; omega, f :: ts, by simp [scrT, h2]⟩
        · exact .inr ⟨by simp [cntF]; omega, by simp [scrT, h2]⟩
/-- The i-th text. -/
theorem scrT_at : ∀ (l : List Pc) (fs ts : List ByteArray), scrT l fs = some ts → ∀ i (hi : i < l.length), (l[i].1 = false ∧ ts[i]? = some l[i].2) ∨ (l[i].1 = true ∧ ∃ h : cntF (l.take i) < fs.length, ts[i]? = some fs[cntF (l.take i)]) := by
  intro l
  induction l with
  | nil => intro fs ts h i hi; simp at hi
  | cons p r ih =>
    intro fs ts h i hi
    obtain ⟨b, t⟩ := p
    cases b with
    | false =>
      simp only [scrT] at h
      cases hr : scrT r fs with
      | none => rw [hr] at h; simp at h
      | some q =>
        rw [hr] at h
        simp only [Option.map_some, Option.some.injEq] at h
        subst h
        cases i with
        | zero => exact .inl ⟨rfl, rfl⟩
        | succ i =>
          have := ih fs q hr i (by simpa using hi)
          simpa [cntF] using this
    | true =>
      cases fs with
      | nil => simp [scrT] at h
      | cons f fs =>
        simp only [scrT] at h
        cases hr : scrT r fs with
        | none => rw [hr] at h; simp at h
        | some q =>
          rw [hr] at h
          simp only [Option.map_some, Option.some.injEq] at h
          subst h
          cases i with
          | zero => exact .inr ⟨rfl, by simp [cntF], by simp [cntF]⟩
          | succ i =>
            have := ih fs q hr i (by simpa using hi)
            have e : 1 + cntF (r.take i) = cntF (r.take i) + 1 := by omega
            simp only [List.getElem_cons_succ, List.take_succ_cons, cntF, if_true, List.length_cons, e]
            rcases this with ⟨h1, h2⟩ | ⟨h1, h2, h3⟩
            · exact .inl ⟨h1, by simpa using h2⟩
            · exact .inr ⟨h1, by omega, by simpa using h3⟩
theorem scrT_names : ∀ (l : List ByteArray), scrT (l.map (fun t => (false, t))) [] = some l := by
  intro l
  induction l with
  | nil => rfl
  | cons t r ih => simp [scrT, ih]
end Go.Proofs.Ytbigolappdlhcaa
