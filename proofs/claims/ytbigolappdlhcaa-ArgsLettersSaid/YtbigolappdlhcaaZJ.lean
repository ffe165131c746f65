/- Letters as one argument. -/
import Derived.Test.YtbigolappdlhcaaZG
import Derived.Test.YtbigolappdlhcaaD
import Derived.Deep.AppendLies
namespace Go.Proofs.Ytbigolappdlhcaa
set_option linter.unusedSimpArgs false
set_option linter.unusedVariables false
open Go.RowKit Go.Deep Go.ChangeShapes Go.WideShapes

/-- v shows the bytes l. -/
def Yx (w : World) (v : Value) (l : List UInt8) : Prop := ∃ ao cap, v = .slice ao l.length cap ∧ l.length ≤ cap ∧ (0 < l.length → ∃ b off, ao = some ⟨b, off, none⟩ ∧ b < w.heap.size ∧ ∀ i (hi : i < l.length), w.cell? ⟨b, off + i, none⟩ = some (.int .u8 l[i].toNat))
theorem Yx.to {w w' : World} {v : Value} {l : List UInt8} (h : Yx w v l) (hb : Below w.heap.size w w') : Yx w' v l := by
  obtain ⟨ao, cap, rfl, hle, h2⟩ := h
  refine ⟨ao, cap, rfl, hle, fun hn => ?_⟩
  obtain ⟨b, off, rfl, hl, hc⟩ := h2 hn
  exact ⟨b, off, rfl, Nat.lt_of_lt_of_le hl hb.size, fun i hi => (hb.cell (p := ⟨b, off + i, none⟩) hl).trans (hc i hi)⟩

def letB (b : UInt8) : UInt8 := match b.toNat % 4 with | 0 => 110 | 1 => 69 | 2 => 114 | _ => 115
def optB4 (b : UInt8) : Nat := match b.toNat % 4 with | 0 => 0 | 1 => 1 | 2 => 1 | _ => 2
def flagT (l : List UInt8) : ByteArray := ⟨(45 :: l.map letB).toArray⟩
def longT (b : UInt8) : ByteArray := match b.toNat % 4 with
  | 0 => ⟨#[45, 45, 113, 117, 105, 101, 116]⟩
  | 1 => ⟨#[45, 45, 114, 101, 103, 101, 120, 112, 45, 101, 120, 116, 101, 110, 100, 101, 100]⟩
  | 2 => ⟨#[45, 45, 114, 101, 103, 101, 120, 112, 45, 101, 120, 116, 101, 110, 100, 101, 100]⟩
  | _ => ⟨#[45, 45, 115, 101, 112, 97, 114, 97, 116, 101]⟩
theorem letB_cases (t : UInt8) : (((t.toNat : Int) % 4 = 0) ∧ letB t = 110) ∨ (((t.toNat : Int) % 4 = 1) ∧ letB t = 69) ∨ (((t.toNat : Int) % 4 = 2) ∧ letB t = 114) ∨ (((t.toNat : Int) % 4 = 3) ∧ letB t = 115) := by
  unfold letB
  rcases (show t.toNat % 4 = 0 ∨ t.toNat % 4 = 1 ∨ t.toNat % 4 = 2 ∨ t.toNat % 4 = 3 by omega) with h | h | h | h
  · exact .inl ⟨by omega, by rw [h]; rfl⟩
  · exact .inr (.inl ⟨by omega, by rw [h]; rfl⟩)
  · exact .inr (.inr (.inl ⟨by omega, by rw [h]; rfl⟩))
  · exact .inr (.inr (.inr ⟨by omega, by rw [h]; rfl⟩))
theorem flagT_size (l : List UInt8) : (flagT l).size = l.length + 1 := by unfold flagT; rw [size_mk]; simp
theorem flagT_snoc (l : List UInt8) (b : UInt8) : flagT (l ++ [b]) = flagT l ++ ⟨#[letB b]⟩ := by
  apply ba_ext; rw [ba_append]; simp [flagT]

set_option maxRecDepth 8000 in
set_option maxHeartbeats 3200000 in
theorem flags_any (v : Value) (l : List UInt8) (w : World) (h : Yx w v l) (hl : l.length ≤ 70000) : Calls Try.prog 24 #[v] w fun e w' => e = .returned (.string (flagT l)) ∧ w = w' := by
  obtain ⟨ao, cap, rfl, hle, hc0⟩ := h
  have HC := Lib.hid hc0
  clear hc0
  go_enter Try.func24, Try.ntmps24
  go_wp2_with fail
  go_loop [3, 4] (fun s3 s4 => ∃ k : Nat, k ≤ l.length ∧ s4 = .int .i64 k ∧ s3 = .string (flagT (l.take k))) (fun _ s4 => l.length - (intOf s4).toNat)
  case atStart => exact ⟨0, Nat.zero_le _, rfl, rfl⟩
  case round =>
    obtain ⟨k, hk, rfl, rfl⟩ := hrel
    by_cases hlt : k < l.length
    · obtain ⟨b, off, rfl, hbl, hc⟩ := HC.out (by omega)
      have d0 := hc k hlt
      obtain ⟨t, ht⟩ : ∃ t, l[k] = t := ⟨_, rfl⟩
      rw [ht] at d0
      have HTK : Hid (flagT (l.take (k + 1)) = flagT (l.take k) ++ ⟨#[letB t]⟩) := by show _ = _; rw [List.take_succ_eq_append_getElem hlt, ht, flagT_snoc]
      have hz : (flagT (l.take k)).size ≤ 70001 := by rw [flagT_size, List.length_take]; omega
      obtain ⟨s, hs⟩ : ∃ s, flagT (l.take k) = s := ⟨_, rfl⟩
      rw [hs] at hz HTK ⊢
      have hk1 : (k : Int) < (l.length : Int) := by omega
      have t0 : (0 : Int) ≤ (t.toNat : Int) := by omega
      have t1 : (t.toNat : Int) ≤ 255 := by have := t.toNat_lt; omega
      clear hc ht hs
      rcases letB_cases t with ⟨hm, hL⟩ | ⟨hm, hL⟩ | ⟨hm, hL⟩ | ⟨hm, hL⟩
      all_goals
        rw [hL] at HTK
        clear hL
        go_wp2_with fail
        go_round
        case rel => exact ⟨k + 1, by omega, by go_num, by rw [HTK.out]; exact congrArg (fun x => Value.string (s ++ x)) (by decide)⟩
        case measure => simp [intOf]; omega
    · obtain rfl : k = l.length := by omega
      rw [List.take_of_length_le (Nat.le_refl _)]
      have h1 : ¬ (l.length : Int) < (l.length : Int) := by omega
      go_wp2_with fail
      go_ret
      exact ⟨rfl, rfl⟩

/-- What letters do. -/
def optsF (l : List UInt8) (a : Av) : Av := l.foldl (fun a b => doOpt a ⟨#[]⟩ (optB4 b)) a
theorem let_opt (t : UInt8) : optOf (isLetter (letB t)) = some (optB4 t) ∧ optB4 t < 3 ∧ letB t ≠ 45 ∧ kind (longT t) = 2 ∧ (∀ a, longL a (tail2 (longT t)) = some (doOpt a ⟨#[]⟩ (optB4 t))) ∧ (longT t).size ≤ 17 := by
  unfold letB optB4 longT
  rcases (show t.toNat % 4 = 0 ∨ t.toNat % 4 = 1 ∨ t.toNat % 4 = 2 ∨ t.toNat % 4 = 3 by omega) with h | h | h | h
  all_goals
    rw [h]
    exact ⟨by decide, by decide, by decide, by decide, fun _ => rfl, by decide⟩
theorem shortF_letters (more : List ByteArray) : ∀ (r pre : List UInt8) (a : Av), shortF ⟨(pre ++ r.map letB).toArray⟩ more r.length a = (0, true, optsF r a) := by
  intro r
  induction r with
  | nil => intro pre a; rfl
  | cons b r ih =>
    intro pre a
    have hz : (⟨(pre ++ (b :: r).map letB).toArray⟩ : ByteArray).size = pre.length + (r.length + 1) := by rw [size_mk]; simp
    have hg : (⟨(pre ++ (b :: r).map letB).toArray⟩ : ByteArray).get! (pre.length + (r.length + 1) - (r.length + 1)) = letB b := by
      rw [Nat.add_sub_cancel, get_is _ _ (by rw [hz]; omega)]
      show (pre ++ (b :: r).map letB)[pre.length]'(by simp) = letB b
      simp
    rw [List.length_cons, shortF, hz, hg, (let_opt b).1]
    have h3 := (let_opt b).2.1
    have e1 : sufx (optB4 b) = false := by
      rcases (show optB4 b = 0 ∨ optB4 b = 1 ∨ optB4 b = 2 by omega) with h | h | h <;> rw [h] <;> rfl
    have e2 : valued (optB4 b) = false := by
      rcases (show optB4 b = 0 ∨ optB4 b = 1 ∨ optB4 b = 2 by omega) with h | h | h <;> rw [h] <;> rfl
    show (if sufx (optB4 b) then _ else if valued (optB4 b) then _ else _) = _
    rw [e1, e2]
    have e3 : pre ++ (b :: r).map letB = (pre ++ [letB b]) ++ r.map letB := by simp
    rw [e3]
    exact ih (pre ++ [letB b]) _
theorem read_flags (l : List UInt8) (hl : l ≠ []) (r : List ByteArray) (a : Av) : readW (flagT l :: r) 0 a = mapR 1 (readW r 0 (optsF l a)) := by
  obtain ⟨b, q, rfl⟩ := List.exists_cons_of_ne_nil hl
  refine readW_opt (kind_letters (y := letB b) (r := q.map letB) rfl (let_opt b).2.2.1) ?_
  unfold flagT
  rw [tail1_mk, size_mk, List.length_map]
  exact shortF_letters r (b :: q) [] a
theorem read_two (r : List ByteArray) : ∀ (l : List UInt8) (a : Av), readW (l.map (fun b => flagT [b]) ++ r) 0 a = mapR l.length (readW r 0 (optsF l a)) := by
  intro l
  induction l with
  | nil => intro a; exact (mapR_zero _).symm
  | cons b l ih =>
    intro a
    rw [List.map_cons, List.cons_append, read_flags [b] (by simp), ih, mapR_mapR]
    rfl
theorem read_three (r : List ByteArray) : ∀ (l : List UInt8) (a : Av), readW (l.map longT ++ r) 0 a = mapR l.length (readW r 0 (optsF l a)) := by
  intro l
  induction l with
  | nil => intro a; exact (mapR_zero _).symm
  | cons b l ih =>
    intro a
    rw [List.map_cons, List.cons_append, readW_long (let_opt b).2.2.2.1 ((let_opt b).2.2.2.2.1 a), ih, mapR_mapR]
    rfl
theorem endW_le (r : List ByteArray) (a : Av) : ∀ c k o, endW r (readW r 0 a) = (o, c, k) → k ≤ r.length := by
  intro c k o h
  cases hR : readW r 0 a with
  | inl j =>
    have := readW_le r r.length 0 a (by omega) j hR
    rw [hR] at h
    simp only [endW, Prod.mk.injEq] at h; omega
  | inr x =>
    obtain ⟨j, b⟩ := x
    rw [hR] at h
    rcases endW_or r (.inr (j, b)) with ⟨k', h'⟩ | ⟨a', h'⟩
    · have h2 : (if b.scr = [] then (match r.drop j with | [] => (none, 260, r.length) | t :: q => (some { b with scr := [(false, t)], nam := q }, 0, 0)) else (some { b with nam := r.drop j }, (0 : Int), (0 : Nat))) = (o, c, k) := h
      by_cases hs : b.scr = []
      · rw [if_pos hs] at h2
        cases hdr : r.drop j with
        | nil => rw [hdr] at h2; simp only [Prod.mk.injEq] at h2; omega
        | cons t q => rw [hdr] at h2; simp only [Prod.mk.injEq] at h2; omega
      · rw [if_neg hs] at h2; simp only [Prod.mk.injEq] at h2; omega
    · rw [h'] at h; simp only [Prod.mk.injEq] at h; omega
/-- The three ways of letters. -/
theorem letter_ways (bs : List UInt8) (hb : bs ≠ []) (r : List ByteArray) (h : bs.length + r.length ≤ 65536) :
    ∃ o c k1 k2, readL ([flagT bs] ++ r) = (o, c, k1) ∧ readL (bs.map (fun b => flagT [b]) ++ r) = (o, c, k2) ∧ readL (bs.map longT ++ r) = (o, c, k2) ∧ (c ≠ 0 → k1 + bs.length = k2 + 1) ∧ k2 ≤ 65536 ∧ k1 ≤ 65537 := by
  have h0 : 0 < bs.length := List.length_pos_iff.2 hb
  have h1 := readL_of (p := [flagT bs]) (r := r) (a := optsF bs zeroAv) (read_flags bs hb r zeroAv) (by simp; omega)
  have h2 := readL_of (p := bs.map (fun b => flagT [b])) (r := r) (a := optsF bs zeroAv) (by rw [List.length_map]; exact read_two r bs zeroAv) (by simp; omega)
  have h3 := readL_of (p := bs.map longT) (r := r) (a := optsF bs zeroAv) (by rw [List.length_map]; exact read_three r bs zeroAv) (by simp; omega)
  rw [List.length_map] at h2 h3
  have hle := endW_le r (optsF bs zeroAv)
  rcases endW_or r (readW r 0 (optsF bs zeroAv)) with ⟨k, hk⟩ | ⟨a, hk⟩
  · have := hle _ _ _ hk
    rw [hk] at h1 h2 h3
    exact ⟨none, 260, k + 1, k + bs.length, h1, h2, h3, fun _ => by omega, by omega, by omega⟩
  · rw [hk] at h1 h2 h3
    exact ⟨some a, 0, 0, 0, h1, h2, h3, fun h => absurd rfl h, by omega, by omega⟩

section
variable {w : World}
/-- Texts behind a row of one's own; only that row turns. -/
theorem wpList_append_textsF {ops : Array Oper} {rest : List Oper} {o : Oper} {a : Act} {Q : Exit → Act → World → Prop} (hgd : o.guard = none) (s x : Operand)
    (ho : o.op = .call { callee := .builtin .append, args := #[s, x], argTypes := #[25, 25] }) (base : Nat) (v : Value) (l : List ByteArray) (hs : a.eval s = v) (hown : Out w base v l)
    (xv : Value) (m : List ByteArray) (hx : a.eval x = xv) (hT : Tz w xv m) (hl : l.length ≤ 200000) (hm : m.length ≤ 200000) (hbase : base ≤ w.heap.size)
    (h : ∀ v' w', Out w' base v' (l ++ m) → Fr (fun i => v.ownBlock = some i) w w' → wpList Try.prog ops Q rest (a.put o.dst v') w') : wpList Try.prog ops Q (o :: rest) a w := by
  obtain ⟨i9, hi9, hz90, hz91, hz92⟩ := info_parts info9
  obtain ⟨ao, cap, rfl, hc⟩ := hT.tx
  have hfit := hT.le _ _ _ rfl
  cases ao with
  | none =>
    have h0 := hfit.2 rfl
    have hm0 : m = [] := List.length_eq_zero_iff.1 (by omega)
    subst h0 hm0
    refine wpList_append_own_none hgd s x 25 ho base 9 i9 1 Try.underlying25 hi9 v l.length (l.map Value.string) hs hown hx (h v w ?_ (Fr.refl _ _))
    rw [List.append_nil]; exact hown
  | some ad =>
    refine wpList_append_own _ hgd s x 25 ho base 9 i9 (.string ⟨#[]⟩) 1 16 Try.underlying25 hi9 hz90 hz91 hz92 rfl (by decide) v l.length (l.map Value.string) hs hown ad m.length cap (m.map Value.string) hx (by simp) ?_ (by intro u hu; simp at hu; obtain ⟨x, _, rfl⟩ := hu; rfl) (by unfold maxLen; omega) (by omega) hbase ?_
    · intro j u hu
      have hj : j < m.length := by
        have := (List.getElem?_eq_some_iff.1 hu).1
        simpa using this
      obtain ⟨b, off, hh, hbl, hcc⟩ := hc (by omega)
      simp only [Option.some.injEq] at hh
      subst hh
      have hadd : (⟨b, off, none⟩ : Addr).add j = ⟨b, off + j, none⟩ := by unfold Addr.add; split <;> simp_all
      rw [hadd, hcc j hj, ← hu]
      simp [hj]
    · intro v' w' h1 h2 _
      exact h v' w' (Out.more (by simp) h1) (Fr.ofGrown h2)
end

/-- Two rows: a text is put behind the first. -/
theorem two_step {w wr w2 : World} {o : Obj} {base g cap n : Nat} {v u : Value} {l m : List ByteArray} {t : ByteArray} (hv : Out wr base v l) (hu : Out wr base u m) (ha : ∀ g, v.ownBlock = some g → u.ownBlock ≠ some g)
    (hg : (wr.alloc o).grownBy w2 v.ownBlock) (hn : n = l.length + 1) (hown : w2.ownsRow base 9 1 (.slice (some ⟨g, 0, none⟩) n cap) n (l.map Value.string ++ [.string t])) (hat : v.ownBlock = some g ∨ wr.heap.size ≤ g) (hb : Below base w wr) (hbase : base ≤ wr.heap.size) :
    Out w2 base (.slice (some ⟨g, 0, none⟩) n cap) (l ++ [t]) ∧ Out w2 base u m ∧ (∀ g', (Value.slice (some ⟨g, 0, none⟩) n cap).ownBlock = some g' → u.ownBlock ≠ some g') ∧ Below base w w2 := by
  have hf : Fr (fun i => v.ownBlock = some i) wr w2 := ((Fr.refl _ wr).alloc o).trans (Fr.ofGrown hg) (fun i _ hi => hi)
  refine ⟨Out.more (m := [t]) (by simp [hn]) hown, row_fr hf hu (fun g' hg' e => ha g' e hg'), ?_, hb.trans (hf.toBelow hbase (fun i _ hi => (World.ownsRow.lt hv i hi).1))⟩
  intro g' hg'
  simp only [Value.ownBlock, Option.some.injEq] at hg'
  subst hg'
  rcases hat with h | h
  · exact ha _ h
  · intro e
    have := (World.ownsRow.lt hu _ e).2
    omega
theorem Bx.fr {S : Nat → Prop} {w w' : World} {base B : Nat} {a : Av} {so : Option Addr} {sc : Nat} {no : Option Addr} {nc : Nat} (h : Bx w base B a so sc no nc) (hf : Fr S w w') (hS : ∀ i, S i → i < base) (hB : base ≤ B) : Bx w' base B a so sc no nc :=
  ⟨(hf.block _ (lt_of_block h.blk) (fun e => by have := hS _ e; omega)).trans h.blk, row_fr hf h.r1 (fun g hg e => by have := hS _ e; have := (World.ownsRow.lt h.r1 g hg).1; omega), row_fr hf h.r2 (fun g hg e => by have := hS _ e; have := (World.ownsRow.lt h.r2 g hg).1; omega)⟩
end Go.Proofs.Ytbigolappdlhcaa
