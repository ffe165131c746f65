/- Normal at an absolute text. -/
import Derived.Test.YtnfnjobgkpefdaaDoorS
namespace Go.Proofs.YtnfnjobgkpefdaaDoor
set_option linter.unusedSimpArgs false
set_option linter.unusedVariables false
open Go.RowKit Go.Shelf
attribute [local go_sem] Oper.semAt_some

/-- One part of a text, behind a path. -/
def stepB (p : List Bs) (x : Bs) : List Bs := if x = [] ∨ x = [46] then p else if x = [46, 46] then p.dropLast else p ++ [x]
def normB (l : List Bs) : List Bs := l.foldl stepB []
theorem normB_snoc (l : List Bs) (x : Bs) : normB (l ++ [x]) = stepB (normB l) x := by
  unfold normB; rw [List.foldl_append]; rfl
abbrev baL (l : List Bs) : List ByteArray := l.map (fun x => ⟨x.toArray⟩)
theorem bsL_baL (l : List Bs) : bsL (baL l) = l := by
  unfold bsL baL
  rw [List.map_map]
  have : ((fun s : ByteArray => s.data.toList) ∘ fun x : Bs => (⟨x.toArray⟩ : ByteArray)) = id := by funext x; rfl
  rw [this, List.map_id]

theorem normB_len : ∀ l : List Bs, (normB l).length ≤ l.length := by
  have key : ∀ (l p : List Bs), (l.foldl stepB p).length ≤ p.length + l.length := by
    intro l
    induction l with
    | nil => intro p; simp
    | cons a l ih =>
      intro p
      rw [List.foldl_cons, List.length_cons]
      have h1 := ih (stepB p a)
      have h2 : (stepB p a).length ≤ p.length + 1 := by
        unfold stepB
        split
        · omega
        · split
          · rw [List.length_dropLast]; omega
          · simp
      omega
  intro l
  have := key l []
  simpa [normB] using this
theorem splitB_len : ∀ l : Bs, (splitB l).length ≤ l.length + 1 := by
  intro l
  induction l with
  | nil => simp [splitB]
  | cons c l ih =>
    rw [splitB]
    split
    · simp; omega
    · split
      · simp
      · rename_i a r e
        rw [e] at ih
        simp at ih ⊢
        omega
theorem row_succ {w : World} {B n : Nat} {e : TypeId} {v : Value} {xs : List Value} (h : w.ownsRow B e 1 v (n + 1) xs) : ∃ g c, v = .slice (some ⟨g, 0, none⟩) (n + 1) c := by
  obtain ⟨_, ⟨_, h0⟩ | ⟨g, cap, cur, rfl, _⟩⟩ := h
  · omega
  · exact ⟨g, cap, rfl⟩
/-- What stands, but for the path that is made. -/
structure NF (w : World) (z p : Nat) (W : World) : Prop where
  r0 : W.heap[z]? = some (.cells #[.slice none 0 0] 23 (0, 0))
  r1 : W.heap[z + 1]? = some (.cells #[.bool false] 4 (0, 0))
  r2 : W.heap[z + 2]? = some (.cells #[.int .i64 0] 25 (0, 0))
  last : ∃ ls, W.heap[p + 1]? = some (.cells #[.string ls] 9 (0, 0))
  below : Below z w W
/-- What stands between two rounds. -/
structure NI (w : World) (z p hB : Nat) (pre : List Bs) (W : World) : Prop where
  fix : NF w z p W
  at_ : ∃ v, W.heap[p]? = some (.cells #[v] 23 (0, 0)) ∧ W.ownsRow (hB + 5) 9 1 v (normB pre).length ((baL (normB pre)).map Value.string)
theorem own_block {w : World} {B n sz : Nat} {e : TypeId} {v : Value} {xs : List Value} (h : w.ownsRow B e sz v n xs) : ∀ g, v.ownBlock = some g → B ≤ g := by
  intro g hg
  rcases h.2 with ⟨rfl, _⟩ | ⟨g', cap, cur, rfl, hb, _⟩
  · cases hg
  · cases hg; exact hb
theorem NF.step {w : World} {z p : Nat} {A B : World} {row : Option Nat} (h : NF w z p A) (hz : z + 3 ≤ p) (hzw : z ≤ w.heap.size) (hg : A.grownBy B row) (hr : ∀ r, row = some r → p ≤ r ∧ r ≠ p + 1) : NF w z p B := by
  have hk : ∀ k o, k < p ∨ k = p + 1 → A.heap[k]? = some o → B.heap[k]? = some o := fun k o hk h => (hg.block k (lt_blk h) (fun e => by
    have := hr k e.symm
    omega)).trans h
  obtain ⟨ls, hls⟩ := h.last
  exact ⟨hk _ _ (by omega) h.r0, hk _ _ (by omega) h.r1, hk _ _ (by omega) h.r2, ⟨ls, hk _ _ (by omega) hls⟩, h.below.grown hg (Nat.le_trans hzw h.below.size) (fun k e => by have := hr k e; omega)⟩
theorem own_keep {w w' : World} {B n sz : Nat} {e : TypeId} {v : Value} {xs : List Value} {row : Option Nat} (h : w.ownsRow B e sz v n xs) (hg : w.grownBy w' row) (hr : ∀ r, row = some r → r < B) : w'.ownsRow B e sz v n xs := by
  refine h.kept hg ?_
  by_cases hn : v.ownBlock = none
  · exact .inl hn
  · right
    intro e
    obtain ⟨g, hg1⟩ := Option.ne_none_iff_exists'.1 hn
    have h1 := own_block h g hg1
    have h2 := hr g (by rw [← e, hg1])
    omega
theorem NI.step {w : World} {z p hB : Nat} {pre : List Bs} {A B : World} {row : Option Nat} (h : NI w z p hB pre A) (hz : z + 3 ≤ p) (hpB : p + 2 = hB) (hzw : z ≤ w.heap.size) (hg : A.grownBy B row) (hr : ∀ r, row = some r → Held hB (hB + 3) r) : NI w z p hB pre B := by
  obtain ⟨v, hv, hown⟩ := h.at_
  refine ⟨h.fix.step hz hzw hg (fun r e => by have := hr r e; unfold Held at this; omega), v, (hg.block _ (lt_blk hv) (fun e => ?_)).trans hv, own_keep hown hg (fun r e => ?_)⟩
  · have := hr _ e.symm; unfold Held at this; omega
  · have := hr r e; unfold Held at this; omega
/-- The last part is put down. -/
theorem NI.setLast {w : World} {z p hB : Nat} {pre : List Bs} {W : World} (h : NI w z p hB pre W) (hz : z + 3 ≤ p) (hpB : p + 2 = hB) (hzw : z ≤ w.heap.size) (x : ByteArray) : NI w z p hB pre (W.setCell ⟨p + 1, 0, none⟩ (.string x)) := by
  have hk : ∀ k, k ≠ p + 1 → (W.setCell ⟨p + 1, 0, none⟩ (.string x)).heap[k]? = W.heap[k]? := fun k hk => Below.heap_setCell W ⟨p + 1, 0, none⟩ _ k hk
  obtain ⟨v, hv, hown⟩ := h.at_
  obtain ⟨ls, hls⟩ := h.fix.last
  exact ⟨⟨(hk _ (by omega)).trans h.fix.r0, (hk _ (by omega)).trans h.fix.r1, (hk _ (by omega)).trans h.fix.r2, ⟨x, heap_setCell_same W (p + 1) 0 _ 9 (0, 0) _ hls⟩, h.fix.below.setCell (p := ⟨p + 1, 0, none⟩) (by show z ≤ p + 1; omega) _⟩,
    v, (hk _ (by omega)).trans hv, own_keep hown (grownBy_setCell' W (p + 1) _) (fun r e => by cases e; omega)⟩
/-- A path is put down. -/
theorem NF.setAt {w : World} {z p hB : Nat} {pre : List Bs} {W : World} {v u : Value} (h : NF w z p W) (hu : W.heap[p]? = some (.cells #[u] 23 (0, 0))) (hown : W.ownsRow (hB + 5) 9 1 v (normB pre).length ((baL (normB pre)).map Value.string)) (hz : z + 3 ≤ p) (hpB : p + 2 = hB) (hzw : z ≤ w.heap.size) : NI w z p hB pre (W.setCell ⟨p, 0, none⟩ v) :=
  ⟨h.step hz hzw (grownBy_setCell' W p v) (fun r e => by cases e; omega), v, heap_setCell_same W p 0 _ 23 (0, 0) _ hu, own_keep hown (grownBy_setCell' W p v) (fun r e => by cases e; omega)⟩
/-- A round's end. -/
theorem NI.round {w : World} {z p hB : Nat} {pre pre' : List Bs} {W : World} {v u : Value} (h : NI w z p hB pre W) (hu : W.heap[p]? = some (.cells #[u] 23 (0, 0))) (hown : W.ownsRow (hB + 5) 9 1 v (normB pre').length ((baL (normB pre')).map Value.string)) (hz : z + 3 ≤ p) (hpB : p + 2 = hB) (hzw : z ≤ w.heap.size) (x : ByteArray) :
    (∀ k, Held hB (hB + 3) k → ((W.setCell ⟨p, 0, none⟩ v).setCell ⟨p + 1, 0, none⟩ (.string x)).heap[k]? = W.heap[k]?) ∧ NI w z p hB pre' ((W.setCell ⟨p, 0, none⟩ v).setCell ⟨p + 1, 0, none⟩ (.string x)) :=
  ⟨fun k hk => (Below.heap_setCell _ ⟨p + 1, 0, none⟩ _ k (by unfold Held at hk; show k ≠ p + 1; omega)).trans (Below.heap_setCell W ⟨p, 0, none⟩ _ k (by unfold Held at hk; show k ≠ p; omega)), (h.fix.setAt hu hown hz hpB hzw).setLast hz hpB hzw x⟩
theorem cell_other (W : World) (a b : Nat) (u : Value) (h : b ≠ a) : (W.setCell ⟨a, 0, none⟩ u).cell? ⟨b, 0, none⟩ = W.cell? ⟨b, 0, none⟩ := by
  unfold World.cell?
  rw [Below.heap_setCell W ⟨a, 0, none⟩ u b h]
theorem own_same {w w' : World} {B n sz : Nat} {e : TypeId} {v : Value} {xs : List Value} (h : w.ownsRow B e sz v n xs) (hk : ∀ k, B ≤ k → w'.heap[k]? = w.heap[k]?) : w'.ownsRow B e sz v n xs := by
  obtain ⟨h1, h2 | ⟨g, cap, cur, hv, hb, hg, rest⟩⟩ := h
  · exact ⟨h1, .inl h2⟩
  · exact ⟨h1, .inr ⟨g, cap, cur, hv, hb, (hk g hb).trans hg, rest⟩⟩
/-- The world at Normal's end. -/
theorem end_world {W : World} {z D : Nat} {v : Value} {b : Bool} (r0 : W.heap[z]? = some (.cells #[.slice none 0 0] 23 (0, 0))) (r1 : W.heap[z + 1]? = some (.cells #[.bool false] 4 (0, 0))) (r2 : W.heap[z + 2]? = some (.cells #[.int .i64 0] 25 (0, 0)))
    (hD : W.heap[D]? = some (.deferred (some []))) (hz : z + 3 ≤ D) :
    (((W.setCell ⟨z, 0, none⟩ v).setCell ⟨z + 1, 0, none⟩ (.bool b)).setCell ⟨z + 1 + 1, 0, none⟩ (.int .i64 0)).drew.heap[D]? = some (.deferred (some [])) ∧
    ((((W.setCell ⟨z, 0, none⟩ v).setCell ⟨z + 1, 0, none⟩ (.bool b)).setCell ⟨z + 1 + 1, 0, none⟩ (.int .i64 0)).drew.putObj D (.deferred none)).cell? ⟨z, 0, none⟩ = some v ∧
    ((((W.setCell ⟨z, 0, none⟩ v).setCell ⟨z + 1, 0, none⟩ (.bool b)).setCell ⟨z + 1 + 1, 0, none⟩ (.int .i64 0)).drew.putObj D (.deferred none)).cell? ⟨z + 1, 0, none⟩ = some (.bool b) ∧
    ((((W.setCell ⟨z, 0, none⟩ v).setCell ⟨z + 1, 0, none⟩ (.bool b)).setCell ⟨z + 1 + 1, 0, none⟩ (.int .i64 0)).drew.putObj D (.deferred none)).cell? ⟨z + 1 + 1, 0, none⟩ = some (.int .i64 0) ∧
    (∀ k, k ≠ D → z + 3 ≤ k → ((((W.setCell ⟨z, 0, none⟩ v).setCell ⟨z + 1, 0, none⟩ (.bool b)).setCell ⟨z + 1 + 1, 0, none⟩ (.int .i64 0)).drew.putObj D (.deferred none)).heap[k]? = W.heap[k]?) ∧
    (∀ B, z ≤ W.heap.size → B = z → Below B W ((((W.setCell ⟨z, 0, none⟩ v).setCell ⟨z + 1, 0, none⟩ (.bool b)).setCell ⟨z + 1 + 1, 0, none⟩ (.int .i64 0)).drew.putObj D (.deferred none))) := by
  have A1 : ∀ k, k ≠ z → (W.setCell ⟨z, 0, none⟩ v).heap[k]? = W.heap[k]? := fun k hk => Below.heap_setCell W ⟨z, 0, none⟩ _ k hk
  have A2 : ∀ k, k ≠ z + 1 → ((W.setCell ⟨z, 0, none⟩ v).setCell ⟨z + 1, 0, none⟩ (.bool b)).heap[k]? = (W.setCell ⟨z, 0, none⟩ v).heap[k]? := fun k hk => Below.heap_setCell _ ⟨z + 1, 0, none⟩ _ k hk
  have A3 : ∀ k, k ≠ z + 1 + 1 → (((W.setCell ⟨z, 0, none⟩ v).setCell ⟨z + 1, 0, none⟩ (.bool b)).setCell ⟨z + 1 + 1, 0, none⟩ (.int .i64 0)).heap[k]? = ((W.setCell ⟨z, 0, none⟩ v).setCell ⟨z + 1, 0, none⟩ (.bool b)).heap[k]? := fun k hk => Below.heap_setCell _ ⟨z + 1 + 1, 0, none⟩ _ k hk
  have B0 : (W.setCell ⟨z, 0, none⟩ v).heap[z]? = some (.cells #[v] 23 (0, 0)) := heap_setCell_same W z 0 _ 23 (0, 0) v r0
  have B1 : ((W.setCell ⟨z, 0, none⟩ v).setCell ⟨z + 1, 0, none⟩ (.bool b)).heap[z + 1]? = some (.cells #[.bool b] 4 (0, 0)) := heap_setCell_same _ (z + 1) 0 _ 4 (0, 0) _ ((A1 _ (by omega)).trans r1)
  have B2 : (((W.setCell ⟨z, 0, none⟩ v).setCell ⟨z + 1, 0, none⟩ (.bool b)).setCell ⟨z + 1 + 1, 0, none⟩ (.int .i64 0)).heap[z + 1 + 1]? = some (.cells #[.int .i64 0] 25 (0, 0)) := heap_setCell_same _ (z + 1 + 1) 0 _ 25 (0, 0) _ ((A2 _ (by omega)).trans ((A1 _ (by omega)).trans r2))
  obtain ⟨V, hV⟩ : ∃ V, ((W.setCell ⟨z, 0, none⟩ v).setCell ⟨z + 1, 0, none⟩ (.bool b)).setCell ⟨z + 1 + 1, 0, none⟩ (.int .i64 0) = V := ⟨_, rfl⟩
  have hbl : ∀ B, B = z → Below B W V := fun B e => by
    rw [← hV, e]
    exact (((Below.refl z W).setCell (p := ⟨z, 0, none⟩) (Nat.le_refl _) v).setCell (p := ⟨z + 1, 0, none⟩) (Nat.le_succ _) _).setCell (p := ⟨z + 1 + 1, 0, none⟩) (by show z ≤ z + 1 + 1; omega) _
  have C0 : V.heap[z]? = some (.cells #[v] 23 (0, 0)) := by rw [← hV]; exact (A3 _ (by omega)).trans ((A2 _ (by omega)).trans B0)
  have C1 : V.heap[z + 1]? = some (.cells #[.bool b] 4 (0, 0)) := by rw [← hV]; exact (A3 _ (by omega)).trans B1
  have C2 : V.heap[z + 1 + 1]? = some (.cells #[.int .i64 0] 25 (0, 0)) := by rw [← hV]; exact B2
  have CK : ∀ k, z + 3 ≤ k → V.heap[k]? = W.heap[k]? := fun k hk => by rw [← hV]; exact (A3 _ (by omega)).trans ((A2 _ (by omega)).trans (A1 _ (by omega)))
  rw [hV]
  clear A1 A2 A3 B0 B1 B2 hV
  have P : ∀ k, k ≠ D → (V.drew.putObj D (.deferred none)).heap[k]? = V.heap[k]? := fun k hk => (World.putObj_heap_other hk).trans rfl
  refine ⟨(CK D hz).trans hD, ?_, ?_, ?_, fun k hk1 hk2 => (P k hk1).trans (CK k hk2), fun B hB e => ?_⟩
  · simp [World.cell?, P z (by omega), C0]
  · simp [World.cell?, P (z + 1) (by omega), C1]
  · simp [World.cell?, P (z + 1 + 1) (by omega), C2]
  · have h1 := (hbl B e).drew
    exact h1.grown (grownBy_putObj' V.drew D _) (by rw [e]; exact Nat.le_trans hB (hbl B e).size) (fun k e2 => by cases e2; omega)
theorem info9 : (Tryd.prog.info? 9).map (fun i => (i.zero, i.size, i.bytes)) = some (some (.string ⟨#[]⟩), 1, 16) := by kernel_rfl
theorem own_take {w : World} {B n m cap : Nat} {e : TypeId} {ao : Option Addr} {xs : List Value} (h : w.ownsRow B e 1 (.slice ao n cap) n xs) (hm : m ≤ n) (hao : ao ≠ none) : w.ownsRow B e 1 (.slice ao m cap) m (xs.take m) := by
  obtain ⟨hl, ⟨hv, _⟩ | ⟨g, cap', cur, hv, hb, hg, hn, hc, hs, ht⟩⟩ := h
  · injection hv with h1; exact absurd h1 hao
  · injection hv with h1 h2 h3
    subst h1 h3
    refine ⟨by rw [List.length_take]; omega, .inr ⟨g, cap, cur, rfl, hb, hg, by omega, hc, hs, ?_⟩⟩
    rw [← ht, List.take_take, Nat.min_eq_left (by omega), Nat.mul_one]

set_option maxRecDepth 8000 in
set_option maxHeartbeats 6400000 in
theorem Normal_any (vq : Value) (q : List ByteArray) (s : ByteArray) (w : World) (hq : Tx w vq q) (hqr : rightL q = true) (hqs : sumL q ≤ 16777216)
    (h1 : 0 < s.size) (h2 : s.size ≤ 1024) (hs0 : s[0]'h1 = 47) (hn0 : 0 ∉ s.data.toList) (hp : ∀ x ∈ splitB s.data.toList, x.length ≤ 255) (hsum : sumL (baL (normB (splitB s.data.toList))) ≤ 1024) :
    Calls Tryd.prog 9 #[vq, .string s] w fun e w' => (∃ v b, e = .returned (.tuple #[v, .bool b, .int .i64 0]) ∧ Tx w' v (baL (normB (splitB s.data.toList)))) ∧ Below w.heap.size w w' := by
  refine (callsIn_wide (n := 8)).1 ?_
  refine callsIn_of_wp_marks Tryd.func9 rfl trivial (wpIn_wide.2 ?_) rfl
  simp only [Tryd.ntmps9, List.size_toArray, List.length_cons, List.length_nil, Nat.reduceAdd, Nat.reduceSub, Array.replicate_succ, Array.replicate_zero, List.push_toArray, List.append_toArray, List.nil_append, List.cons_append]
  obtain ⟨ne1, ne2⟩ : s.toList.isEmpty = false ∧ (s.toList == []) = false := by rw [emp_toList2, emp_toList, decide_eq_false (by omega)]; exact ⟨rfl, rfl⟩
  have ne3 : ¬ s.toList = [] := by simpa using ne2
  obtain ⟨Z, hZ⟩ : ∃ Z, ((w.alloc (.cells #[.slice none 0 0] 23)).alloc (.cells #[.bool false] 4)).alloc (.cells #[.int .i64 0] 25) = Z := ⟨_, rfl⟩
  have l2 : (s.size : Int) ≤ 1024 := by omega
  have d2 : decide ((1024 : Int) < (s.size : Int)) = false := decide_eq_false (by omega)
  have d3 : ¬ (1024 : Int) < (s.size : Int) := by omega
  have hci : Lib.indexByte s.data.toList 0 = -1 := by
    have hge := Lib.indexByte_ge s.data.toList 0
    by_cases h : Lib.indexByte s.data.toList 0 = -1
    · exact h
    · obtain ⟨h4, _⟩ := Lib.indexByte_some (o := (Lib.indexByte s.data.toList 0).toNat) (c := 0) (l := s.data.toList) (by omega)
      exact absurd (List.mem_of_getElem? h4) hn0
  have hbZ : Below w.heap.size w Z := by
    rw [← hZ]
    exact ((Below.refl _ w).alloc (Nat.le_refl _) _ |>.alloc (by simp) _).alloc (by simp; omega) _
  have hszZ : Z.heap.size = w.heap.size + 3 := by rw [← hZ]; simp
  have hz0 : Z.heap[w.heap.size]? = some (.cells #[.slice none 0 0] 23 (0, 0)) := by
    rw [← hZ, Lib.alloc_old _ _ _ (by simp; omega), Lib.alloc_old _ _ _ (by simp)]
    exact heap_alloc_new w _
  have hz1 : Z.heap[w.heap.size + 1]? = some (.cells #[.bool false] 4 (0, 0)) := by
    rw [← hZ, Lib.alloc_old _ _ _ (by simp)]
    have := heap_alloc_new (w.alloc (.cells #[.slice none 0 0] 23)) (.cells #[.bool false] 4)
    rwa [World.size_alloc] at this
  have hz2 : Z.heap[w.heap.size + 2]? = some (.cells #[.int .i64 0] 25 (0, 0)) := by
    rw [← hZ]
    have := heap_alloc_new ((w.alloc (.cells #[.slice none 0 0] 23)).alloc (.cells #[.bool false] 4)) (.cells #[.int .i64 0] 25)
    rwa [World.size_alloc, World.size_alloc] at this
  have HR := Lib.hid (Right_any vq q Z (hq.to hbZ) (by omega))
  rw [hqr] at HR
  have HP := Lib.hid hp
  have HS := Lib.hid hsum
  have HZ0 := Lib.hid hz0
  have HZ1 := Lib.hid hz1
  have HZ2 := Lib.hid hz2
  have HBZ := Lib.hid hbZ
  have HSZ := Lib.hid hszZ
  have HCO := Lib.hid (fun W => Tryd.strings_Contains_one s 0 W)
  rw [hci] at HCO
  have HSQ := Lib.hid (fun W => f24_any s W)
  clear hz0 hz1 hz2 hbZ hszZ hq hp hsum hn0 hci
  go_wp2_with fail
  refine HR.out.mono ?_
  rintro e W1 ⟨rfl, hb1⟩
  have HB1 := Lib.hid hb1
  clear hb1 HR hZ
  go_wp2_with fail
  refine (HCO.out _).mono ?_
  rintro e w' ⟨rfl, hw'⟩
  rw [hw']
  clear hw' HCO
  go_wp2_with fail
  obtain ⟨W3, hW3⟩ : ∃ W3, (W1.alloc (.cells #[.slice none 0 0] 23)).alloc (.cells #[.string ⟨#[]⟩] 9) = W3 := ⟨_, rfl⟩
  have h3z : W3.heap.size = W1.heap.size + 2 := by rw [← hW3]; simp
  have h3p : W3.heap[W1.heap.size]? = some (.cells #[.slice none 0 0] 23 (0, 0)) := by
    rw [← hW3, Lib.alloc_old _ _ _ (by simp)]
    exact heap_alloc_new _ _
  have h3q : W3.heap[W1.heap.size + 1]? = some (.cells #[.string ⟨#[]⟩] 9 (0, 0)) := by
    rw [← hW3]
    have := heap_alloc_new (W1.alloc (.cells #[.slice none 0 0] 23)) (.cells #[.string ⟨#[]⟩] 9)
    rwa [World.size_alloc] at this
  have h3b : Below W1.heap.size W1 W3 := by
    rw [← hW3]; exact ((Below.refl _ _).alloc (Nat.le_refl _) _).alloc (by simp) _
  rw [hW3]
  clear hW3
  refine (HSQ.out _).mono ?_
  rintro e W4 ⟨rfl, hC4, h4z, h4b⟩
  have HC4 := Lib.hid hC4
  obtain ⟨z, hz⟩ : ∃ z, w.heap.size = z := ⟨_, rfl⟩
  obtain ⟨p, hpp⟩ : ∃ p, W1.heap.size = p := ⟨_, rfl⟩
  obtain ⟨hB, hhB⟩ : ∃ hB, W3.heap.size = hB := ⟨_, rfl⟩
  have hB1 := HB1.out.size
  rw [HSZ.out] at hB1
  have hNI : NI w z p hB [] W4 := by
    subst hz hpp hhB
    have kk : ∀ k o, k < W1.heap.size → W1.heap[k]? = o → W4.heap[k]? = o := fun k o hk h => (h4b.block k (by omega)).trans ((h3b.block k hk).trans h)
    exact ⟨⟨kk _ _ (by omega) ((HB1.out.block _ (lt_blk HZ0.out)).trans HZ0.out), kk _ _ (by omega) ((HB1.out.block _ (lt_blk HZ1.out)).trans HZ1.out), kk _ _ (by omega) ((HB1.out.block _ (lt_blk HZ2.out)).trans HZ2.out),
      ⟨_, (h4b.block _ (by omega)).trans h3q⟩, ((bl_to HBZ.out HB1.out).trans (h3b.mono (by omega))).trans (h4b.mono (by omega))⟩,
      .slice none 0 0, (h4b.block _ (by omega)).trans h3p, rfl, .inl ⟨rfl, rfl⟩⟩
  rw [hhB] at h4z hC4 HC4 ⊢
  have HNI := Lib.hid hNI
  have hpB : p + 2 = hB := by omega
  have hzp : z + 3 ≤ p := by omega
  clear h3z h3p h3q h3b h4b hNI hC4 hB1 HSQ HZ0 HZ1 HZ2
  rw [hz, hpp]
  go_wp2_with fail
  have h4z' : W4.heap.size = hB + 3 := h4z
  refine wpIn_wide.1 (range_split (a := ?a) (n := 8) hB s rfl HC4.out (by omega) (by omega) rfl (NI w z p hB) ?hI HNI.out (fun x => { tmps := (Array.setIfInBounds (Act.tmps ?a) 32 (.string ⟨x.toArray⟩)).setIfInBounds 9 (.string ⟨x.toArray⟩), defers := [] }) ?hassign ?hbody ?hdone)
  case hI =>
    intro pre A B row h hg hr
    rw [h4z'] at hr
    exact h.step hzp hpB (by omega) hg hr
  case hassign =>
    intro l x W K hK
    gi_wp2
    exact hK
  case hbody =>
    intro l pre x rest W hsp hI hz2
    rw [h4z'] at hz2 ⊢
    obtain ⟨xb, hxb⟩ : ∃ xb : ByteArray, (⟨x.toArray⟩ : ByteArray) = xb := ⟨_, rfl⟩
    rw [hxb]
    have hxz : xb.size = x.length := by rw [← hxb]; exact List.size_toArray
    have hxl : xb.toList = x := by rw [← hxb, ByteArray.toList_mk]
    have hx255 : x.length ≤ 255 := HP.out x (by rw [hsp]; simp)
    have g1 : (xb.size : Int) ≤ 255 := by omega
    have g2 : decide ((255 : Int) < (xb.size : Int)) = false := decide_eq_false (by omega)
    have g3 : ¬ (255 : Int) < (xb.size : Int) := by omega
    obtain ⟨v, hv, hown⟩ := hI.at_
    obtain ⟨ls, hls⟩ := hI.fix.last
    have c7 : W.cell? ⟨p, 0, none⟩ = some v := by simp [World.cell?, hv]
    have f7 : W.frozen? ⟨p, 0, none⟩ = false := by simp [World.frozen?, hv]
    have c8 : W.cell? ⟨p + 1, 0, none⟩ = some (.string ls) := by simp [World.cell?, hls]
    have f8 : W.frozen? ⟨p + 1, 0, none⟩ = false := by simp [World.frozen?, hls]
    have HI := Lib.hid hI
    have HOW := Lib.hid hown
    have HV := Lib.hid hv
    have HX := Lib.hid hxl
    by_cases hA : x = [] ∨ x = [46]
    · have HST := Lib.hid (show normB (pre ++ [x]) = normB pre by rw [normB_snoc]; unfold stepB; rw [if_pos hA])
      have hfin : NI w z p hB (pre ++ [x]) (W.setCell ⟨p + 1, 0, none⟩ (.string xb)) := by
        have := HI.out.setLast hzp hpB (by omega) xb
        exact ⟨this.fix, by rw [HST.out]; exact this.at_⟩
      have HFIN := Lib.hid hfin
      have hkeep : ∀ k, Held hB (hB + 3) k → (W.setCell ⟨p + 1, 0, none⟩ (.string xb)).heap[k]? = W.heap[k]? := fun k hk => Below.heap_setCell W ⟨p + 1, 0, none⟩ _ k (by unfold Held at hk; show k ≠ p + 1; omega)
      have HK := Lib.hid hkeep
      clear hI hown hv hls hfin hkeep hsp hx255 hxb
      rcases hA with hA | hA
      · subst hA
        obtain ⟨q1, q2⟩ : xb.toList.isEmpty = true ∧ (xb.toList == []) = true := by rw [hxl]; exact ⟨rfl, rfl⟩
        gi_wp2
        exact ⟨HK.out, HFIN.out⟩
      · subst hA
        obtain ⟨q1, q2⟩ : xb.toList.isEmpty = false ∧ (xb.toList == []) = false := by rw [hxl]; exact ⟨rfl, rfl⟩
        have q3 : ¬ xb.toList = [] := by rw [hxl]; simp
        have q4 : (xb.toList == [46]) = true := by rw [hxl]; rfl
        gi_wp2
        exact ⟨HK.out, HFIN.out⟩
    · have hA1 : x ≠ [] := fun e => hA (.inl e)
      have hA2 : x ≠ [46] := fun e => hA (.inr e)
      have q2 : (xb.toList == []) = false := by rw [hxl]; simpa using hA1
      have q1 : xb.toList.isEmpty = false := by rw [hxl]; cases x with | nil => exact absurd rfl hA1 | cons => rfl
      have q3 : ¬ xb.toList = [] := by rw [hxl]; exact hA1
      have q4 : (xb.toList == [46]) = false := by rw [hxl]; simpa using hA2
      have q5 : ¬ xb.toList = [46] := by rw [hxl]; exact hA2
      by_cases hD : x = [46, 46]
      · have HST := Lib.hid (show normB (pre ++ [x]) = (normB pre).dropLast by rw [normB_snoc]; unfold stepB; rw [if_neg hA, if_pos hD])
        have q6 : (xb.toList == [46, 46]) = true := by rw [hxl, hD]; rfl
        have q7 : xb.toList = [46, 46] := by rw [hxl, hD]
        obtain ⟨m, hm⟩ : ∃ m, (normB pre).length = m := ⟨_, rfl⟩
        rw [hm] at hown
        clear hI hls hsp hx255 hxb hA hA1 hA2 hD q2 q4 hxl
        rcases hown.2 with ⟨rfl, rfl⟩ | ⟨g, cap, cur, rfl, hgB, hgg, hmc, hcm, hcs, hct⟩
        · clear hown
          have e0 : (max (-1 : Int) 0).toNat = 0 := rfl
          gi_wp2
          have hl0 : normB pre = [] := List.eq_nil_of_length_eq_zero hm
          have hr : normB (pre ++ [x]) = [] := by rw [HST.out, hl0]; rfl
          exact HI.out.round HV.out (by rw [hr]; exact ⟨rfl, .inl ⟨rfl, rfl⟩⟩) hzp hpB (by omega) xb
        · have l3 : max ((m : Int) - 1) 0 = ((m - 1 : Nat) : Int) := by omega
          have w3 : IntKind.i64.wrap ((m : Int) - 1) = (m : Int) - 1 := wrap_in _ (by omega) (by simp only [maxLen] at hcm; omega)
          have l4 : (0 : Int) ≤ ((m - 1 : Nat) : Int) := by omega
          have l5 : ((m - 1 : Nat) : Int) ≤ (cap : Int) := by omega
          clear hown
          rw [hm] at HOW
          gi_wp2
          have hlen : (normB (pre ++ [x])).length = m - 1 := by rw [HST.out, List.length_dropLast, hm]
          refine HI.out.round HV.out ?_ hzp hpB (by omega) xb
          rw [hlen]
          have := own_take HOW.out (Nat.sub_le m 1) (by simp)
          have e : (baL (normB (pre ++ [x]))).map Value.string = ((baL (normB pre)).map Value.string).take (m - 1) := by
            rw [HST.out, List.dropLast_eq_take, hm]
            simp [baL, List.map_take]
          rw [e]
          exact this
      · have HST := Lib.hid (show normB (pre ++ [x]) = normB pre ++ [x] by rw [normB_snoc]; unfold stepB; rw [if_neg hA, if_neg hD])
        have q6 : (xb.toList == [46, 46]) = false := by rw [hxl]; simpa using hD
        have q7 : ¬ xb.toList = [46, 46] := by rw [hxl]; exact hD
        obtain ⟨i0, hi0, hz0, hz1, hz2'⟩ := info_parts info9
        obtain ⟨m, hm⟩ : ∃ m, (normB pre).length = m := ⟨_, rfl⟩
        rw [hm] at hown
        have hmz : m ≤ 1025 := by
          have h3 := normB_len pre
          have h4 := splitB_len s.data.toList
          rw [hsp, List.length_append] at h4
          have h5 : s.data.toList.length = s.size := (Lib.size_eq s).symm
          omega
        have HXB := Lib.hid hxb
        have hsz1 : hB + 5 ≤ W.heap.size := by omega
        have hob : ∀ k, k < hB + 5 → some k ≠ v.ownBlock := fun k hk e => by
          have := own_block hown k e.symm
          omega
        have HOB := Lib.hid hob
        have HHM := Lib.hid hm
        clear hI hls hsp hx255 hxb hA hA1 hA2 hD q2 hxl hv hob
        gi_wp2_with (gi_at_builtin; refine wpListIn_append_own _ rfl _ _ 23 rfl (hB + 5) 9 i0 (.string ⟨#[]⟩) 1 16 Tryd.underlying23 hi0 hz0 hz1 hz2' rfl (by decide) _ _ _ rfl (hown.alloc _) ⟨W.heap.size, 0, none⟩ 1 1 [.string xb] rfl rfl (by intro j u hj; rcases j with _ | j <;> simp_all [Addr.add]) (by intro u hu; simp at hu; subst hu; rfl) (by simp only [maxLen]; omega) (by omega) (by simp; omega) ?_; intro v' w1 hown' hgrow _; obtain ⟨gg, cc, rfl⟩ := row_succ hown'; have hk1 : ∀ k o, k < hB + 5 → W.heap[k]? = o → w1.heap[k]? = o := (fun k o hk h => (hgrow.block k (by simp; omega) (HOB.out k hk)).trans ((Lib.alloc_old W _ k (by omega)).trans h)); have HK1 := Lib.hid hk1; have hp1 := hk1 p _ (by omega) HV.out; have c7' : w1.cell? ⟨p, 0, none⟩ = some v := (by simp [World.cell?, hp1]); have f7' : w1.frozen? ⟨p, 0, none⟩ = false := (by simp [World.frozen?, hp1]); have HP1 := Lib.hid hp1; obtain ⟨ls', hls'⟩ := HI.out.fix.last; have hq1 := hk1 (p + 1) _ (by omega) hls'; have c8' : w1.cell? ⟨p + 1, 0, none⟩ = some (.string ls') := (by simp [World.cell?, hq1]); have f8' : w1.frozen? ⟨p + 1, 0, none⟩ = false := (by simp [World.frozen?, hq1]); clear hk1 hp1 hls' hq1)
        have hf1 : NF w z p w1 := (HI.out.fix.step hzp (by omega) (World.grownBy_alloc W _ none) (fun r e => by cases e)).step hzp (by omega) hgrow (fun r e => by
          have : ¬ r < hB + 5 := fun h => HOB.out r h e.symm
          omega)
        have hown2 : w1.ownsRow (hB + 5) 9 1 (.slice (some ⟨gg, 0, none⟩) (m + 1) cc) (normB (pre ++ [x])).length ((baL (normB (pre ++ [x]))).map Value.string) := by
          rw [HST.out, List.length_append, List.length_singleton, HHM.out]
          have e : (baL (normB pre ++ [x])).map Value.string = (baL (normB pre)).map Value.string ++ [.string xb] := by
            rw [← HXB.out]; simp [baL]
          rw [e]
          exact hown'
        exact ⟨fun k hk => (Below.heap_setCell _ ⟨p + 1, 0, none⟩ _ k (by unfold Held at hk; show k ≠ p + 1; omega)).trans ((Below.heap_setCell w1 ⟨p, 0, none⟩ _ k (by unfold Held at hk; show k ≠ p; omega)).trans (HK1.out k _ (by unfold Held at hk; omega) rfl)),
          (hf1.setAt HP1.out hown2 hzp hpB (by omega)).setLast hzp hpB (by omega) xb⟩
  case hdone =>
    intro W hI hD
    obtain ⟨v, hv, hown⟩ := hI.at_
    obtain ⟨ls, hls⟩ := hI.fix.last
    have c7 : W.cell? ⟨p, 0, none⟩ = some v := by simp [World.cell?, hv]
    have c8 : W.cell? ⟨p + 1, 0, none⟩ = some (.string ls) := by simp [World.cell?, hls]
    have e1 : (baL (normB (splitB s.data.toList))).length = (normB (splitB s.data.toList)).length := by simp [baL]
    obtain ⟨ao, cap, rfl⟩ := row_shape hown
    have hTx := Tx.ofOwn (l := baL (normB (splitB s.data.toList))) (by rw [e1]; exact hown)
    have HSI := Lib.hid (size_any _ _ W hTx (by have := HS.out; omega))
    have hmx : max (sumL (baL (normB (splitB s.data.toList)))) 1 ≤ 1024 := by have := HS.out; omega
    obtain ⟨M, hM⟩ : ∃ M, max (sumL (baL (normB (splitB s.data.toList)))) 1 = M := ⟨_, rfl⟩
    rw [hM] at HSI hmx
    have k1 : decide ((1024 : Int) < (M : Int)) = false := decide_eq_false (by omega)
    have k2 : (M : Int) ≤ 1024 := by omega
    have k3 : ¬ (1024 : Int) < (M : Int) := by omega
    have HOWN := Lib.hid hown
    have HI := Lib.hid hI
    rw [h4z'] at hD
    have HD := Lib.hid hD
    clear hTx hI hD hown e1 hM
    go_wp2_with fail
    refine HSI.out.mono ?_
    rintro e w' ⟨rfl, rfl⟩
    go_wp2_with fail
    have zp0 : z ≠ p := by omega
    have zp1 : z + 1 ≠ p := by omega
    have zp2 : z + 1 + 1 ≠ p := by omega
    have zp3 : z ≠ p + 1 := by omega
    have zp4 : z + 1 ≠ p + 1 := by omega
    have zp5 : z + 1 + 1 ≠ p + 1 := by omega
    have keyS : ∀ (V : World) a u v, a ≠ p → a ≠ p + 1 → (V.cell? ⟨p, 0, none⟩ = some v ∧ V.cell? ⟨p + 1, 0, none⟩ = some (.string ls)) → ((V.setCell ⟨a, 0, none⟩ u).cell? ⟨p, 0, none⟩ = some v ∧ (V.setCell ⟨a, 0, none⟩ u).cell? ⟨p + 1, 0, none⟩ = some (.string ls)) := fun V a u v h1 h2 h => ⟨(cell_other V a p u (Ne.symm h1)).trans h.1, (cell_other V a (p + 1) u (Ne.symm h2)).trans h.2⟩
    have f0 : W.frozen? ⟨z, 0, none⟩ = false := by simp [World.frozen?, HI.out.fix.r0]
    have f1 : W.frozen? ⟨z + 1, 0, none⟩ = false := by simp [World.frozen?, HI.out.fix.r1]
    have f2 : W.frozen? ⟨z + 1 + 1, 0, none⟩ = false := by simp [World.frozen?, HI.out.fix.r2]
    have g0 : W.cell? ⟨z, 0, none⟩ = some (.slice none 0 0) := by simp [World.cell?, HI.out.fix.r0]
    have g1 : W.cell? ⟨z + 1, 0, none⟩ = some (.bool false) := by simp [World.cell?, HI.out.fix.r1]
    have g2 : W.cell? ⟨z + 1 + 1, 0, none⟩ = some (.int .i64 0) := by simp [World.cell?, HI.out.fix.r2]
    have s1 : W.drew.cell? ⟨p, 0, none⟩ = some (.slice ao (normB (splitB s.data.toList)).length cap) ∧ W.drew.cell? ⟨p + 1, 0, none⟩ = some (.string ls) := ⟨by simpa using c7, by simpa using c8⟩
    have s2 := keyS W.drew z (.slice ao (normB (splitB s.data.toList)).length cap) _ zp0 zp3 s1
    refine wp_region_noPanic ?_
    refine wp_region_held_drew (S := fun W' => W'.cell? ⟨p, 0, none⟩ = some (.slice ao (normB (splitB s.data.toList)).length cap) ∧ W'.cell? ⟨p + 1, 0, none⟩ = some (.string ls)) (by kernel_rfl) s1 (fun hHeld => ?_)
    obtain ⟨b1, hb1⟩ : ∃ b, (ls.toList == []) = b := ⟨_, rfl⟩
    obtain ⟨b2, hb2⟩ : ∃ b, (ls.toList == [46]) = b := ⟨_, rfl⟩
    obtain ⟨b3, hb3⟩ : ∃ b, (ls.toList == [46, 46]) = b := ⟨_, rfl⟩
    rcases (show b1 = true ∨ (b1 = false ∧ b2 = true) ∨ (b1 = false ∧ b2 = false ∧ b3 = true) ∨ (b1 = false ∧ b2 = false ∧ b3 = false) by cases b1 <;> cases b2 <;> cases b3 <;> simp) with rfl | ⟨rfl, rfl⟩ | ⟨rfl, rfl, rfl⟩ | ⟨rfl, rfl, rfl⟩
    · have hl0 : ls.toList = [] := by simpa using hb1
      have hle : ls.toList.isEmpty = true := by rw [hl0]; rfl
      have s3 := keyS _ (z + 1) (.bool true) _ zp1 zp4 s2
      have s4 := keyS _ (z + 1 + 1) (.int .i64 0) _ zp2 zp5 s3
      refine wpAnyH_take (i := 0) (v := (.slice ao (normB (splitB s.data.toList)).length cap)) rfl (by kernel_rfl) (by kernel_rfl) (by kernel_rfl) (fun _ _ _ h => h) (Or.inl ⟨by rfl, ?_⟩) (by assumption) ?_
      · intro V hV
        obtain ⟨hv1, hv2⟩ := hV
        simp only [List.getElem_toArray, List.getElem_cons_zero, List.getElem_cons_succ]
        go_simp
      simp only [List.getElem_toArray, List.getElem_cons_zero, List.getElem_cons_succ, Act.put, List.setIfInBounds_toArray, List.set_cons_zero, List.set_cons_succ]
      refine wpAnyH_take (i := 1) (v := (.string ls)) rfl (by kernel_rfl) (by kernel_rfl) (by kernel_rfl) (fun _ _ _ h => h) (Or.inl ⟨by rfl, ?_⟩) (by assumption) ?_
      · intro V hV
        obtain ⟨hv1, hv2⟩ := hV
        simp only [List.getElem_toArray, List.getElem_cons_zero, List.getElem_cons_succ]
        go_simp
      simp only [List.getElem_toArray, List.getElem_cons_zero, List.getElem_cons_succ, Act.put, List.setIfInBounds_toArray, List.set_cons_zero, List.set_cons_succ]
      refine wpAnyH_take (i := 2) (v := (.bool true)) rfl (by kernel_rfl) (by kernel_rfl) (by kernel_rfl) (fun _ _ _ h => h) (Or.inl ⟨by rfl, ?_⟩) (by assumption) ?_
      · intro V hV
        obtain ⟨hv1, hv2⟩ := hV
        simp only [List.getElem_toArray, List.getElem_cons_zero, List.getElem_cons_succ]
        go_simp
      simp only [List.getElem_toArray, List.getElem_cons_zero, List.getElem_cons_succ, Act.put, List.setIfInBounds_toArray, List.set_cons_zero, List.set_cons_succ]
      refine wpAnyH_take (i := 3) (v := (.bool true)) rfl (by kernel_rfl) (by kernel_rfl) (by kernel_rfl) (fun _ _ _ h => h) (Or.inl ⟨by rfl, ?_⟩) (by assumption) ?_
      · intro V hV
        obtain ⟨hv1, hv2⟩ := hV
        simp only [List.getElem_toArray, List.getElem_cons_zero, List.getElem_cons_succ]
        go_simp
      simp only [List.getElem_toArray, List.getElem_cons_zero, List.getElem_cons_succ, Act.put, List.setIfInBounds_toArray, List.set_cons_zero, List.set_cons_succ]
      refine wpAnyH_take (i := 4) (v := undef) rfl (by kernel_rfl) (by kernel_rfl) (by kernel_rfl) (fun _ _ _ h => h) (Or.inr ⟨by rfl, rfl⟩) (by assumption) ?_
      simp only [List.getElem_toArray, List.getElem_cons_zero, List.getElem_cons_succ, Act.put, List.setIfInBounds_toArray, List.set_cons_zero, List.set_cons_succ]
      refine wpAnyH_take (i := 5) (v := undef) rfl (by kernel_rfl) (by kernel_rfl) (by kernel_rfl) (fun _ _ _ h => h) (Or.inr ⟨by rfl, rfl⟩) (by assumption) ?_
      simp only [List.getElem_toArray, List.getElem_cons_zero, List.getElem_cons_succ, Act.put, List.setIfInBounds_toArray, List.set_cons_zero, List.set_cons_succ]
      refine wpAnyH_take (i := 6) (v := (.bool true)) rfl (by kernel_rfl) (by kernel_rfl) (by kernel_rfl) (fun _ _ _ h => h) (Or.inl ⟨by rfl, ?_⟩) (by assumption) ?_
      · intro V hV
        obtain ⟨hv1, hv2⟩ := hV
        simp only [List.getElem_toArray, List.getElem_cons_zero, List.getElem_cons_succ]
        go_simp
      simp only [List.getElem_toArray, List.getElem_cons_zero, List.getElem_cons_succ, Act.put, List.setIfInBounds_toArray, List.set_cons_zero, List.set_cons_succ]
      refine wpAnyH_take (i := 7) (v := (.bool true)) rfl (by kernel_rfl) (by kernel_rfl) (by kernel_rfl) (fun _ _ _ h => h) (Or.inl ⟨by rfl, ?_⟩) (by assumption) ?_
      · intro V hV
        obtain ⟨hv1, hv2⟩ := hV
        simp only [List.getElem_toArray, List.getElem_cons_zero, List.getElem_cons_succ]
        go_simp
      simp only [List.getElem_toArray, List.getElem_cons_zero, List.getElem_cons_succ, Act.put, List.setIfInBounds_toArray, List.set_cons_zero, List.set_cons_succ]
      refine wpAnyH_take (i := 8) (v := undef) rfl (by kernel_rfl) (by kernel_rfl) (by kernel_rfl) (fun _ _ _ h => h) (Or.inr ⟨by rfl, rfl⟩) (by assumption) ?_
      simp only [List.getElem_toArray, List.getElem_cons_zero, List.getElem_cons_succ, Act.put, List.setIfInBounds_toArray, List.set_cons_zero, List.set_cons_succ]
      refine wpAnyH_take (i := 9) (v := undef) rfl (by kernel_rfl) (by kernel_rfl) (by kernel_rfl) (fun _ _ _ h => h) (Or.inr ⟨by rfl, rfl⟩) (by assumption) ?_
      simp only [List.getElem_toArray, List.getElem_cons_zero, List.getElem_cons_succ, Act.put, List.setIfInBounds_toArray, List.set_cons_zero, List.set_cons_succ]
      refine wpAnyH_take (i := 10) (v := (.bool true)) rfl (by kernel_rfl) (by kernel_rfl) (by kernel_rfl) (fun _ _ _ h => h) (Or.inl ⟨by rfl, ?_⟩) (by assumption) ?_
      · intro V hV
        obtain ⟨hv1, hv2⟩ := hV
        simp only [List.getElem_toArray, List.getElem_cons_zero, List.getElem_cons_succ]
        go_simp
      simp only [List.getElem_toArray, List.getElem_cons_zero, List.getElem_cons_succ, Act.put, List.setIfInBounds_toArray, List.set_cons_zero, List.set_cons_succ]
      refine wpAnyH_ready (rs := [11]) (by kernel_rfl) (by simp) ?_
      refine AllReadyH.cons rfl (fun K hK => ?_) AllReadyH.nil
      simp only [List.getElem_toArray, List.getElem_cons_zero, List.getElem_cons_succ]
      go_simp
      refine hK.out _ _ s2 (fun hHeld => ?_)
      clear hK K
      try simp only [Act.put, List.setIfInBounds_toArray, List.set_cons_zero, List.set_cons_succ]
      refine wpAnyH_ready (rs := [12]) (by kernel_rfl) (by simp) ?_
      refine AllReadyH.cons rfl (fun K hK => ?_) AllReadyH.nil
      simp only [List.getElem_toArray, List.getElem_cons_zero, List.getElem_cons_succ]
      go_simp
      refine hK.out _ _ s3 (fun hHeld => ?_)
      clear hK K
      try simp only [Act.put, List.setIfInBounds_toArray, List.set_cons_zero, List.set_cons_succ]
      refine wpAnyH_ready (rs := [13]) (by kernel_rfl) (by simp) ?_
      refine AllReadyH.cons rfl (fun K hK => ?_) AllReadyH.nil
      simp only [List.getElem_toArray, List.getElem_cons_zero, List.getElem_cons_succ]
      go_simp
      refine hK.out _ _ s4 (fun hHeld => ?_)
      clear hK K
      try simp only [Act.put, List.setIfInBounds_toArray, List.set_cons_zero, List.set_cons_succ]
      refine wpAnyH_done (by kernel_rfl) (NoPanic.normal ?_) _
      go_wp2_with fail
      have hend := end_world (W := W) (z := z) (D := hB + 3) (v := .slice ao (normB (splitB s.data.toList)).length cap) (b := true) HI.out.fix.r0 HI.out.fix.r1 HI.out.fix.r2 HD.out (by omega)
      obtain ⟨hK, t0, t1, t2, hkeep, hbw⟩ := hend
      refine ⟨by simp, .inl ⟨_, _, rfl, run_takeDeferred hK, ?_⟩⟩
      refine ⟨.tuple #[.slice ao (normB (splitB s.data.toList)).length cap, .bool true, .int .i64 0], by simp [results, Tryd.results9, go_sem, t0, t1, t2], ⟨_, _, rfl, Tx.ofOwn (l := baL (normB (splitB s.data.toList))) (by rw [show (baL (normB (splitB s.data.toList))).length = (normB (splitB s.data.toList)).length by simp [baL]]; exact own_same HOWN.out (fun k hk => hkeep k (by omega) (by omega)))⟩, ?_⟩
      rw [hz]
      have hzW := HI.out.fix.below.size
      exact HI.out.fix.below.trans (hbw z (by omega) rfl)
    · have n1 : ls.toList.isEmpty = false := by cases h : ls.toList with | nil => rw [h] at hb1; cases hb1 | cons => rfl
      have n2 : ¬ ls.toList = [] := fun e => by rw [e] at hb1; cases hb1
      have y3 : ls.toList = [46] := by simpa using hb2
      have s3 := keyS _ (z + 1) (.bool true) _ zp1 zp4 s2
      have s4 := keyS _ (z + 1 + 1) (.int .i64 0) _ zp2 zp5 s3
      refine wpAnyH_take (i := 0) (v := (.slice ao (normB (splitB s.data.toList)).length cap)) rfl (by kernel_rfl) (by kernel_rfl) (by kernel_rfl) (fun _ _ _ h => h) (Or.inl ⟨by rfl, ?_⟩) (by assumption) ?_
      · intro V hV
        obtain ⟨hv1, hv2⟩ := hV
        simp only [List.getElem_toArray, List.getElem_cons_zero, List.getElem_cons_succ]
        go_simp
      simp only [List.getElem_toArray, List.getElem_cons_zero, List.getElem_cons_succ, Act.put, List.setIfInBounds_toArray, List.set_cons_zero, List.set_cons_succ]
      refine wpAnyH_take (i := 1) (v := (.string ls)) rfl (by kernel_rfl) (by kernel_rfl) (by kernel_rfl) (fun _ _ _ h => h) (Or.inl ⟨by rfl, ?_⟩) (by assumption) ?_
      · intro V hV
        obtain ⟨hv1, hv2⟩ := hV
        simp only [List.getElem_toArray, List.getElem_cons_zero, List.getElem_cons_succ]
        go_simp
      simp only [List.getElem_toArray, List.getElem_cons_zero, List.getElem_cons_succ, Act.put, List.setIfInBounds_toArray, List.set_cons_zero, List.set_cons_succ]
      refine wpAnyH_take (i := 2) (v := (.bool false)) rfl (by kernel_rfl) (by kernel_rfl) (by kernel_rfl) (fun _ _ _ h => h) (Or.inl ⟨by rfl, ?_⟩) (by assumption) ?_
      · intro V hV
        obtain ⟨hv1, hv2⟩ := hV
        simp only [List.getElem_toArray, List.getElem_cons_zero, List.getElem_cons_succ]
        go_simp
      simp only [List.getElem_toArray, List.getElem_cons_zero, List.getElem_cons_succ, Act.put, List.setIfInBounds_toArray, List.set_cons_zero, List.set_cons_succ]
      refine wpAnyH_take (i := 3) (v := (.bool false)) rfl (by kernel_rfl) (by kernel_rfl) (by kernel_rfl) (fun _ _ _ h => h) (Or.inl ⟨by rfl, ?_⟩) (by assumption) ?_
      · intro V hV
        obtain ⟨hv1, hv2⟩ := hV
        simp only [List.getElem_toArray, List.getElem_cons_zero, List.getElem_cons_succ]
        go_simp
      simp only [List.getElem_toArray, List.getElem_cons_zero, List.getElem_cons_succ, Act.put, List.setIfInBounds_toArray, List.set_cons_zero, List.set_cons_succ]
      refine wpAnyH_take (i := 4) (v := (.string ls)) rfl (by kernel_rfl) (by kernel_rfl) (by kernel_rfl) (fun _ _ _ h => h) (Or.inl ⟨by rfl, ?_⟩) (by assumption) ?_
      · intro V hV
        obtain ⟨hv1, hv2⟩ := hV
        simp only [List.getElem_toArray, List.getElem_cons_zero, List.getElem_cons_succ]
        go_simp
      simp only [List.getElem_toArray, List.getElem_cons_zero, List.getElem_cons_succ, Act.put, List.setIfInBounds_toArray, List.set_cons_zero, List.set_cons_succ]
      refine wpAnyH_take (i := 5) (v := (.bool true)) rfl (by kernel_rfl) (by kernel_rfl) (by kernel_rfl) (fun _ _ _ h => h) (Or.inl ⟨by rfl, ?_⟩) (by assumption) ?_
      · intro V hV
        obtain ⟨hv1, hv2⟩ := hV
        simp only [List.getElem_toArray, List.getElem_cons_zero, List.getElem_cons_succ]
        go_simp
      simp only [List.getElem_toArray, List.getElem_cons_zero, List.getElem_cons_succ, Act.put, List.setIfInBounds_toArray, List.set_cons_zero, List.set_cons_succ]
      refine wpAnyH_take (i := 6) (v := (.bool true)) rfl (by kernel_rfl) (by kernel_rfl) (by kernel_rfl) (fun _ _ _ h => h) (Or.inl ⟨by rfl, ?_⟩) (by assumption) ?_
      · intro V hV
        obtain ⟨hv1, hv2⟩ := hV
        simp only [List.getElem_toArray, List.getElem_cons_zero, List.getElem_cons_succ]
        go_simp
      simp only [List.getElem_toArray, List.getElem_cons_zero, List.getElem_cons_succ, Act.put, List.setIfInBounds_toArray, List.set_cons_zero, List.set_cons_succ]
      refine wpAnyH_take (i := 7) (v := (.bool true)) rfl (by kernel_rfl) (by kernel_rfl) (by kernel_rfl) (fun _ _ _ h => h) (Or.inl ⟨by rfl, ?_⟩) (by assumption) ?_
      · intro V hV
        obtain ⟨hv1, hv2⟩ := hV
        simp only [List.getElem_toArray, List.getElem_cons_zero, List.getElem_cons_succ]
        go_simp
      simp only [List.getElem_toArray, List.getElem_cons_zero, List.getElem_cons_succ, Act.put, List.setIfInBounds_toArray, List.set_cons_zero, List.set_cons_succ]
      refine wpAnyH_take (i := 8) (v := undef) rfl (by kernel_rfl) (by kernel_rfl) (by kernel_rfl) (fun _ _ _ h => h) (Or.inr ⟨by rfl, rfl⟩) (by assumption) ?_
      simp only [List.getElem_toArray, List.getElem_cons_zero, List.getElem_cons_succ, Act.put, List.setIfInBounds_toArray, List.set_cons_zero, List.set_cons_succ]
      refine wpAnyH_take (i := 9) (v := undef) rfl (by kernel_rfl) (by kernel_rfl) (by kernel_rfl) (fun _ _ _ h => h) (Or.inr ⟨by rfl, rfl⟩) (by assumption) ?_
      simp only [List.getElem_toArray, List.getElem_cons_zero, List.getElem_cons_succ, Act.put, List.setIfInBounds_toArray, List.set_cons_zero, List.set_cons_succ]
      refine wpAnyH_take (i := 10) (v := (.bool true)) rfl (by kernel_rfl) (by kernel_rfl) (by kernel_rfl) (fun _ _ _ h => h) (Or.inl ⟨by rfl, ?_⟩) (by assumption) ?_
      · intro V hV
        obtain ⟨hv1, hv2⟩ := hV
        simp only [List.getElem_toArray, List.getElem_cons_zero, List.getElem_cons_succ]
        go_simp
      simp only [List.getElem_toArray, List.getElem_cons_zero, List.getElem_cons_succ, Act.put, List.setIfInBounds_toArray, List.set_cons_zero, List.set_cons_succ]
      refine wpAnyH_ready (rs := [11]) (by kernel_rfl) (by simp) ?_
      refine AllReadyH.cons rfl (fun K hK => ?_) AllReadyH.nil
      simp only [List.getElem_toArray, List.getElem_cons_zero, List.getElem_cons_succ]
      go_simp
      refine hK.out _ _ s2 (fun hHeld => ?_)
      clear hK K
      try simp only [Act.put, List.setIfInBounds_toArray, List.set_cons_zero, List.set_cons_succ]
      refine wpAnyH_ready (rs := [12]) (by kernel_rfl) (by simp) ?_
      refine AllReadyH.cons rfl (fun K hK => ?_) AllReadyH.nil
      simp only [List.getElem_toArray, List.getElem_cons_zero, List.getElem_cons_succ]
      go_simp
      refine hK.out _ _ s3 (fun hHeld => ?_)
      clear hK K
      try simp only [Act.put, List.setIfInBounds_toArray, List.set_cons_zero, List.set_cons_succ]
      refine wpAnyH_ready (rs := [13]) (by kernel_rfl) (by simp) ?_
      refine AllReadyH.cons rfl (fun K hK => ?_) AllReadyH.nil
      simp only [List.getElem_toArray, List.getElem_cons_zero, List.getElem_cons_succ]
      go_simp
      refine hK.out _ _ s4 (fun hHeld => ?_)
      clear hK K
      try simp only [Act.put, List.setIfInBounds_toArray, List.set_cons_zero, List.set_cons_succ]
      refine wpAnyH_done (by kernel_rfl) (NoPanic.normal ?_) _
      go_wp2_with fail
      have hend := end_world (W := W) (z := z) (D := hB + 3) (v := .slice ao (normB (splitB s.data.toList)).length cap) (b := true) HI.out.fix.r0 HI.out.fix.r1 HI.out.fix.r2 HD.out (by omega)
      obtain ⟨hK, t0, t1, t2, hkeep, hbw⟩ := hend
      refine ⟨by simp, .inl ⟨_, _, rfl, run_takeDeferred hK, ?_⟩⟩
      refine ⟨.tuple #[.slice ao (normB (splitB s.data.toList)).length cap, .bool true, .int .i64 0], by simp [results, Tryd.results9, go_sem, t0, t1, t2], ⟨_, _, rfl, Tx.ofOwn (l := baL (normB (splitB s.data.toList))) (by rw [show (baL (normB (splitB s.data.toList))).length = (normB (splitB s.data.toList)).length by simp [baL]]; exact own_same HOWN.out (fun k hk => hkeep k (by omega) (by omega)))⟩, ?_⟩
      rw [hz]
      have hzW := HI.out.fix.below.size
      exact HI.out.fix.below.trans (hbw z (by omega) rfl)
    · have n1 : ls.toList.isEmpty = false := by cases h : ls.toList with | nil => rw [h] at hb1; cases hb1 | cons => rfl
      have n2 : ¬ ls.toList = [] := fun e => by rw [e] at hb1; cases hb1
      have n3 : ¬ ls.toList = [46] := fun e => by rw [e] at hb2; cases hb2
      have y4 : ls.toList = [46, 46] := by simpa using hb3
      have s3 := keyS _ (z + 1) (.bool true) _ zp1 zp4 s2
      have s4 := keyS _ (z + 1 + 1) (.int .i64 0) _ zp2 zp5 s3
      refine wpAnyH_take (i := 0) (v := (.slice ao (normB (splitB s.data.toList)).length cap)) rfl (by kernel_rfl) (by kernel_rfl) (by kernel_rfl) (fun _ _ _ h => h) (Or.inl ⟨by rfl, ?_⟩) (by assumption) ?_
      · intro V hV
        obtain ⟨hv1, hv2⟩ := hV
        simp only [List.getElem_toArray, List.getElem_cons_zero, List.getElem_cons_succ]
        go_simp
      simp only [List.getElem_toArray, List.getElem_cons_zero, List.getElem_cons_succ, Act.put, List.setIfInBounds_toArray, List.set_cons_zero, List.set_cons_succ]
      refine wpAnyH_take (i := 1) (v := (.string ls)) rfl (by kernel_rfl) (by kernel_rfl) (by kernel_rfl) (fun _ _ _ h => h) (Or.inl ⟨by rfl, ?_⟩) (by assumption) ?_
      · intro V hV
        obtain ⟨hv1, hv2⟩ := hV
        simp only [List.getElem_toArray, List.getElem_cons_zero, List.getElem_cons_succ]
        go_simp
      simp only [List.getElem_toArray, List.getElem_cons_zero, List.getElem_cons_succ, Act.put, List.setIfInBounds_toArray, List.set_cons_zero, List.set_cons_succ]
      refine wpAnyH_take (i := 2) (v := (.bool false)) rfl (by kernel_rfl) (by kernel_rfl) (by kernel_rfl) (fun _ _ _ h => h) (Or.inl ⟨by rfl, ?_⟩) (by assumption) ?_
      · intro V hV
        obtain ⟨hv1, hv2⟩ := hV
        simp only [List.getElem_toArray, List.getElem_cons_zero, List.getElem_cons_succ]
        go_simp
      simp only [List.getElem_toArray, List.getElem_cons_zero, List.getElem_cons_succ, Act.put, List.setIfInBounds_toArray, List.set_cons_zero, List.set_cons_succ]
      refine wpAnyH_take (i := 3) (v := (.bool false)) rfl (by kernel_rfl) (by kernel_rfl) (by kernel_rfl) (fun _ _ _ h => h) (Or.inl ⟨by rfl, ?_⟩) (by assumption) ?_
      · intro V hV
        obtain ⟨hv1, hv2⟩ := hV
        simp only [List.getElem_toArray, List.getElem_cons_zero, List.getElem_cons_succ]
        go_simp
      simp only [List.getElem_toArray, List.getElem_cons_zero, List.getElem_cons_succ, Act.put, List.setIfInBounds_toArray, List.set_cons_zero, List.set_cons_succ]
      refine wpAnyH_take (i := 4) (v := (.string ls)) rfl (by kernel_rfl) (by kernel_rfl) (by kernel_rfl) (fun _ _ _ h => h) (Or.inl ⟨by rfl, ?_⟩) (by assumption) ?_
      · intro V hV
        obtain ⟨hv1, hv2⟩ := hV
        simp only [List.getElem_toArray, List.getElem_cons_zero, List.getElem_cons_succ]
        go_simp
      simp only [List.getElem_toArray, List.getElem_cons_zero, List.getElem_cons_succ, Act.put, List.setIfInBounds_toArray, List.set_cons_zero, List.set_cons_succ]
      refine wpAnyH_take (i := 5) (v := (.bool false)) rfl (by kernel_rfl) (by kernel_rfl) (by kernel_rfl) (fun _ _ _ h => h) (Or.inl ⟨by rfl, ?_⟩) (by assumption) ?_
      · intro V hV
        obtain ⟨hv1, hv2⟩ := hV
        simp only [List.getElem_toArray, List.getElem_cons_zero, List.getElem_cons_succ]
        go_simp
      simp only [List.getElem_toArray, List.getElem_cons_zero, List.getElem_cons_succ, Act.put, List.setIfInBounds_toArray, List.set_cons_zero, List.set_cons_succ]
      refine wpAnyH_take (i := 6) (v := (.bool false)) rfl (by kernel_rfl) (by kernel_rfl) (by kernel_rfl) (fun _ _ _ h => h) (Or.inl ⟨by rfl, ?_⟩) (by assumption) ?_
      · intro V hV
        obtain ⟨hv1, hv2⟩ := hV
        simp only [List.getElem_toArray, List.getElem_cons_zero, List.getElem_cons_succ]
        go_simp
      simp only [List.getElem_toArray, List.getElem_cons_zero, List.getElem_cons_succ, Act.put, List.setIfInBounds_toArray, List.set_cons_zero, List.set_cons_succ]
      refine wpAnyH_take (i := 7) (v := (.bool false)) rfl (by kernel_rfl) (by kernel_rfl) (by kernel_rfl) (fun _ _ _ h => h) (Or.inl ⟨by rfl, ?_⟩) (by assumption) ?_
      · intro V hV
        obtain ⟨hv1, hv2⟩ := hV
        simp only [List.getElem_toArray, List.getElem_cons_zero, List.getElem_cons_succ]
        go_simp
      simp only [List.getElem_toArray, List.getElem_cons_zero, List.getElem_cons_succ, Act.put, List.setIfInBounds_toArray, List.set_cons_zero, List.set_cons_succ]
      refine wpAnyH_take (i := 8) (v := (.string ls)) rfl (by kernel_rfl) (by kernel_rfl) (by kernel_rfl) (fun _ _ _ h => h) (Or.inl ⟨by rfl, ?_⟩) (by assumption) ?_
      · intro V hV
        obtain ⟨hv1, hv2⟩ := hV
        simp only [List.getElem_toArray, List.getElem_cons_zero, List.getElem_cons_succ]
        go_simp
      simp only [List.getElem_toArray, List.getElem_cons_zero, List.getElem_cons_succ, Act.put, List.setIfInBounds_toArray, List.set_cons_zero, List.set_cons_succ]
      refine wpAnyH_take (i := 9) (v := (.bool true)) rfl (by kernel_rfl) (by kernel_rfl) (by kernel_rfl) (fun _ _ _ h => h) (Or.inl ⟨by rfl, ?_⟩) (by assumption) ?_
      · intro V hV
        obtain ⟨hv1, hv2⟩ := hV
        simp only [List.getElem_toArray, List.getElem_cons_zero, List.getElem_cons_succ]
        go_simp
      simp only [List.getElem_toArray, List.getElem_cons_zero, List.getElem_cons_succ, Act.put, List.setIfInBounds_toArray, List.set_cons_zero, List.set_cons_succ]
      refine wpAnyH_take (i := 10) (v := (.bool true)) rfl (by kernel_rfl) (by kernel_rfl) (by kernel_rfl) (fun _ _ _ h => h) (Or.inl ⟨by rfl, ?_⟩) (by assumption) ?_
      · intro V hV
        obtain ⟨hv1, hv2⟩ := hV
        simp only [List.getElem_toArray, List.getElem_cons_zero, List.getElem_cons_succ]
        go_simp
      simp only [List.getElem_toArray, List.getElem_cons_zero, List.getElem_cons_succ, Act.put, List.setIfInBounds_toArray, List.set_cons_zero, List.set_cons_succ]
      refine wpAnyH_ready (rs := [11]) (by kernel_rfl) (by simp) ?_
      refine AllReadyH.cons rfl (fun K hK => ?_) AllReadyH.nil
      simp only [List.getElem_toArray, List.getElem_cons_zero, List.getElem_cons_succ]
      go_simp
      refine hK.out _ _ s2 (fun hHeld => ?_)
      clear hK K
      try simp only [Act.put, List.setIfInBounds_toArray, List.set_cons_zero, List.set_cons_succ]
      refine wpAnyH_ready (rs := [12]) (by kernel_rfl) (by simp) ?_
      refine AllReadyH.cons rfl (fun K hK => ?_) AllReadyH.nil
      simp only [List.getElem_toArray, List.getElem_cons_zero, List.getElem_cons_succ]
      go_simp
      refine hK.out _ _ s3 (fun hHeld => ?_)
      clear hK K
      try simp only [Act.put, List.setIfInBounds_toArray, List.set_cons_zero, List.set_cons_succ]
      refine wpAnyH_ready (rs := [13]) (by kernel_rfl) (by simp) ?_
      refine AllReadyH.cons rfl (fun K hK => ?_) AllReadyH.nil
      simp only [List.getElem_toArray, List.getElem_cons_zero, List.getElem_cons_succ]
      go_simp
      refine hK.out _ _ s4 (fun hHeld => ?_)
      clear hK K
      try simp only [Act.put, List.setIfInBounds_toArray, List.set_cons_zero, List.set_cons_succ]
      refine wpAnyH_done (by kernel_rfl) (NoPanic.normal ?_) _
      go_wp2_with fail
      have hend := end_world (W := W) (z := z) (D := hB + 3) (v := .slice ao (normB (splitB s.data.toList)).length cap) (b := true) HI.out.fix.r0 HI.out.fix.r1 HI.out.fix.r2 HD.out (by omega)
      obtain ⟨hK, t0, t1, t2, hkeep, hbw⟩ := hend
      refine ⟨by simp, .inl ⟨_, _, rfl, run_takeDeferred hK, ?_⟩⟩
      refine ⟨.tuple #[.slice ao (normB (splitB s.data.toList)).length cap, .bool true, .int .i64 0], by simp [results, Tryd.results9, go_sem, t0, t1, t2], ⟨_, _, rfl, Tx.ofOwn (l := baL (normB (splitB s.data.toList))) (by rw [show (baL (normB (splitB s.data.toList))).length = (normB (splitB s.data.toList)).length by simp [baL]]; exact own_same HOWN.out (fun k hk => hkeep k (by omega) (by omega)))⟩, ?_⟩
      rw [hz]
      have hzW := HI.out.fix.below.size
      exact HI.out.fix.below.trans (hbw z (by omega) rfl)
    · have n1 : ls.toList.isEmpty = false := by cases h : ls.toList with | nil => rw [h] at hb1; cases hb1 | cons => rfl
      have n2 : ¬ ls.toList = [] := fun e => by rw [e] at hb1; cases hb1
      have n3 : ¬ ls.toList = [46] := fun e => by rw [e] at hb2; cases hb2
      have n4 : ¬ ls.toList = [46, 46] := fun e => by rw [e] at hb3; cases hb3
      have s3 := keyS _ (z + 1) (.bool false) _ zp1 zp4 s2
      have s4 := keyS _ (z + 1 + 1) (.int .i64 0) _ zp2 zp5 s3
      refine wpAnyH_take (i := 0) (v := (.slice ao (normB (splitB s.data.toList)).length cap)) rfl (by kernel_rfl) (by kernel_rfl) (by kernel_rfl) (fun _ _ _ h => h) (Or.inl ⟨by rfl, ?_⟩) (by assumption) ?_
      · intro V hV
        obtain ⟨hv1, hv2⟩ := hV
        simp only [List.getElem_toArray, List.getElem_cons_zero, List.getElem_cons_succ]
        go_simp
      simp only [List.getElem_toArray, List.getElem_cons_zero, List.getElem_cons_succ, Act.put, List.setIfInBounds_toArray, List.set_cons_zero, List.set_cons_succ]
      refine wpAnyH_take (i := 1) (v := (.string ls)) rfl (by kernel_rfl) (by kernel_rfl) (by kernel_rfl) (fun _ _ _ h => h) (Or.inl ⟨by rfl, ?_⟩) (by assumption) ?_
      · intro V hV
        obtain ⟨hv1, hv2⟩ := hV
        simp only [List.getElem_toArray, List.getElem_cons_zero, List.getElem_cons_succ]
        go_simp
      simp only [List.getElem_toArray, List.getElem_cons_zero, List.getElem_cons_succ, Act.put, List.setIfInBounds_toArray, List.set_cons_zero, List.set_cons_succ]
      refine wpAnyH_take (i := 2) (v := (.bool false)) rfl (by kernel_rfl) (by kernel_rfl) (by kernel_rfl) (fun _ _ _ h => h) (Or.inl ⟨by rfl, ?_⟩) (by assumption) ?_
      · intro V hV
        obtain ⟨hv1, hv2⟩ := hV
        simp only [List.getElem_toArray, List.getElem_cons_zero, List.getElem_cons_succ]
        go_simp
      simp only [List.getElem_toArray, List.getElem_cons_zero, List.getElem_cons_succ, Act.put, List.setIfInBounds_toArray, List.set_cons_zero, List.set_cons_succ]
      refine wpAnyH_take (i := 3) (v := (.bool false)) rfl (by kernel_rfl) (by kernel_rfl) (by kernel_rfl) (fun _ _ _ h => h) (Or.inl ⟨by rfl, ?_⟩) (by assumption) ?_
      · intro V hV
        obtain ⟨hv1, hv2⟩ := hV
        simp only [List.getElem_toArray, List.getElem_cons_zero, List.getElem_cons_succ]
        go_simp
      simp only [List.getElem_toArray, List.getElem_cons_zero, List.getElem_cons_succ, Act.put, List.setIfInBounds_toArray, List.set_cons_zero, List.set_cons_succ]
      refine wpAnyH_take (i := 4) (v := (.string ls)) rfl (by kernel_rfl) (by kernel_rfl) (by kernel_rfl) (fun _ _ _ h => h) (Or.inl ⟨by rfl, ?_⟩) (by assumption) ?_
      · intro V hV
        obtain ⟨hv1, hv2⟩ := hV
        simp only [List.getElem_toArray, List.getElem_cons_zero, List.getElem_cons_succ]
        go_simp
      simp only [List.getElem_toArray, List.getElem_cons_zero, List.getElem_cons_succ, Act.put, List.setIfInBounds_toArray, List.set_cons_zero, List.set_cons_succ]
      refine wpAnyH_take (i := 5) (v := (.bool false)) rfl (by kernel_rfl) (by kernel_rfl) (by kernel_rfl) (fun _ _ _ h => h) (Or.inl ⟨by rfl, ?_⟩) (by assumption) ?_
      · intro V hV
        obtain ⟨hv1, hv2⟩ := hV
        simp only [List.getElem_toArray, List.getElem_cons_zero, List.getElem_cons_succ]
        go_simp
      simp only [List.getElem_toArray, List.getElem_cons_zero, List.getElem_cons_succ, Act.put, List.setIfInBounds_toArray, List.set_cons_zero, List.set_cons_succ]
      refine wpAnyH_take (i := 6) (v := (.bool false)) rfl (by kernel_rfl) (by kernel_rfl) (by kernel_rfl) (fun _ _ _ h => h) (Or.inl ⟨by rfl, ?_⟩) (by assumption) ?_
      · intro V hV
        obtain ⟨hv1, hv2⟩ := hV
        simp only [List.getElem_toArray, List.getElem_cons_zero, List.getElem_cons_succ]
        go_simp
      simp only [List.getElem_toArray, List.getElem_cons_zero, List.getElem_cons_succ, Act.put, List.setIfInBounds_toArray, List.set_cons_zero, List.set_cons_succ]
      refine wpAnyH_take (i := 7) (v := (.bool false)) rfl (by kernel_rfl) (by kernel_rfl) (by kernel_rfl) (fun _ _ _ h => h) (Or.inl ⟨by rfl, ?_⟩) (by assumption) ?_
      · intro V hV
        obtain ⟨hv1, hv2⟩ := hV
        simp only [List.getElem_toArray, List.getElem_cons_zero, List.getElem_cons_succ]
        go_simp
      simp only [List.getElem_toArray, List.getElem_cons_zero, List.getElem_cons_succ, Act.put, List.setIfInBounds_toArray, List.set_cons_zero, List.set_cons_succ]
      refine wpAnyH_take (i := 8) (v := (.string ls)) rfl (by kernel_rfl) (by kernel_rfl) (by kernel_rfl) (fun _ _ _ h => h) (Or.inl ⟨by rfl, ?_⟩) (by assumption) ?_
      · intro V hV
        obtain ⟨hv1, hv2⟩ := hV
        simp only [List.getElem_toArray, List.getElem_cons_zero, List.getElem_cons_succ]
        go_simp
      simp only [List.getElem_toArray, List.getElem_cons_zero, List.getElem_cons_succ, Act.put, List.setIfInBounds_toArray, List.set_cons_zero, List.set_cons_succ]
      refine wpAnyH_take (i := 9) (v := (.bool false)) rfl (by kernel_rfl) (by kernel_rfl) (by kernel_rfl) (fun _ _ _ h => h) (Or.inl ⟨by rfl, ?_⟩) (by assumption) ?_
      · intro V hV
        obtain ⟨hv1, hv2⟩ := hV
        simp only [List.getElem_toArray, List.getElem_cons_zero, List.getElem_cons_succ]
        go_simp
      simp only [List.getElem_toArray, List.getElem_cons_zero, List.getElem_cons_succ, Act.put, List.setIfInBounds_toArray, List.set_cons_zero, List.set_cons_succ]
      refine wpAnyH_take (i := 10) (v := (.bool false)) rfl (by kernel_rfl) (by kernel_rfl) (by kernel_rfl) (fun _ _ _ h => h) (Or.inl ⟨by rfl, ?_⟩) (by assumption) ?_
      · intro V hV
        obtain ⟨hv1, hv2⟩ := hV
        simp only [List.getElem_toArray, List.getElem_cons_zero, List.getElem_cons_succ]
        go_simp
      simp only [List.getElem_toArray, List.getElem_cons_zero, List.getElem_cons_succ, Act.put, List.setIfInBounds_toArray, List.set_cons_zero, List.set_cons_succ]
      refine wpAnyH_ready (rs := [11]) (by kernel_rfl) (by simp) ?_
      refine AllReadyH.cons rfl (fun K hK => ?_) AllReadyH.nil
      simp only [List.getElem_toArray, List.getElem_cons_zero, List.getElem_cons_succ]
      go_simp
      refine hK.out _ _ s2 (fun hHeld => ?_)
      clear hK K
      try simp only [Act.put, List.setIfInBounds_toArray, List.set_cons_zero, List.set_cons_succ]
      refine wpAnyH_ready (rs := [12]) (by kernel_rfl) (by simp) ?_
      refine AllReadyH.cons rfl (fun K hK => ?_) AllReadyH.nil
      simp only [List.getElem_toArray, List.getElem_cons_zero, List.getElem_cons_succ]
      go_simp
      refine hK.out _ _ s3 (fun hHeld => ?_)
      clear hK K
      try simp only [Act.put, List.setIfInBounds_toArray, List.set_cons_zero, List.set_cons_succ]
      refine wpAnyH_ready (rs := [13]) (by kernel_rfl) (by simp) ?_
      refine AllReadyH.cons rfl (fun K hK => ?_) AllReadyH.nil
      simp only [List.getElem_toArray, List.getElem_cons_zero, List.getElem_cons_succ]
      go_simp
      refine hK.out _ _ s4 (fun hHeld => ?_)
      clear hK K
      try simp only [Act.put, List.setIfInBounds_toArray, List.set_cons_zero, List.set_cons_succ]
      refine wpAnyH_done (by kernel_rfl) (NoPanic.normal ?_) _
      go_wp2_with fail
      have hend := end_world (W := W) (z := z) (D := hB + 3) (v := .slice ao (normB (splitB s.data.toList)).length cap) (b := false) HI.out.fix.r0 HI.out.fix.r1 HI.out.fix.r2 HD.out (by omega)
      obtain ⟨hK, t0, t1, t2, hkeep, hbw⟩ := hend
      refine ⟨by simp, .inl ⟨_, _, rfl, run_takeDeferred hK, ?_⟩⟩
      refine ⟨.tuple #[.slice ao (normB (splitB s.data.toList)).length cap, .bool false, .int .i64 0], by simp [results, Tryd.results9, go_sem, t0, t1, t2], ⟨_, _, rfl, Tx.ofOwn (l := baL (normB (splitB s.data.toList))) (by rw [show (baL (normB (splitB s.data.toList))).length = (normB (splitB s.data.toList)).length by simp [baL]]; exact own_same HOWN.out (fun k hk => hkeep k (by omega) (by omega)))⟩, ?_⟩
      rw [hz]
      have hzW := HI.out.fix.below.size
      exact HI.out.fix.below.trans (hbw z (by omega) rfl)
end Go.Proofs.YtnfnjobgkpefdaaDoor
