/-
  Ntd: rows behind slices.Delete and slices.SortFunc.
-/
import Derived.Test.YtmgkenbfjlahpaaNtc
import Derived.Sort.OwnSorted
import Derived.Shelf.SlicesE.Delete
import Derived.Shelf.SlSortCmp.WholeK
import Derived.Shelf.SlSortCmp.NoneTotal
namespace Go.Proofs.Ytmgkenbfjlahpaa
open Go.RowKit Go.WideMaps Go.Sort

instance : Inhabited Pk := ⟨⟨none, 0, []⟩⟩
theorem pk_default : Pk.val default = .slice none 0 0 := rfl
section
variable {α : Type} [Inhabited α] (enc : α → Value)
theorem holds_of_blockE {w : World} {g : Nat} {cur : Array Value} {e : TypeId} {ss : List α} (hb : w.heap[g]? = some (.cells cur e (0, 0))) (ht : cur.toList.take ss.length = ss.map enc) : Holds enc w g 0 ss.toArray := by
  intro j hj
  have hj' : j < ss.length := by simpa using hj
  refine ⟨?_, by simp [World.frozen?, hb]⟩
  have h1 : (cur.toList.take ss.length)[j]? = (ss.map enc)[j]? := by rw [ht]
  rw [List.getElem?_take_of_lt hj'] at h1
  simp only [World.cell?, hb, Nat.zero_add]
  simp only [Option.isSome_none, Bool.false_eq_true, if_false]
  rw [← Array.getElem?_toList, h1]
  simp [hj']
theorem heap_putE {w : World} {g n : Nat} {os : Array Obj} {cur : Array Value} {e : TypeId} {fr : Nat × Nat} (d : Array α) (hb : w.heap[g]? = some (.cells cur e fr)) :
    (grow (putRow enc (Sort.ahead w n) g 0 d) os).heap[g]? = some (.cells (putCells enc 0 d cur) e fr) := by
  have hg : g < w.heap.size := (Array.getElem?_eq_some_iff.1 hb).1
  rw [heap_grow_old _ _ (by simpa using hg)]
  simp [putRow, mapBlock, Sort.ahead, Array.getElem?_modify, hb, onCells]
theorem fr_putE {w : World} {g n : Nat} {os : Array Obj} (d : Array α) : Fr (OneB g) w (grow (putRow enc (Sort.ahead w n) g 0 d) os) := by
  refine ⟨rfl, rfl, rfl, by simp [grow, putRow, mapBlock, Sort.ahead], fun k hk hne => ?_⟩
  rw [heap_grow_old _ _ (by simpa using hk)]
  have : g ≠ k := fun e => hne e.symm
  simp [putRow, mapBlock, Sort.ahead, Array.getElem?_modify, this]
theorem take_putCellsE (cur : Array Value) (ts : List α) (m : Nat) (hm : m ≤ ts.length) (h : ts.length ≤ cur.size) : (putCells enc 0 ts.toArray cur).toList.take m = (ts.take m).map enc := by
  apply List.ext_getElem?
  intro j
  by_cases hj : j < m
  · rw [List.getElem?_take_of_lt hj, Array.getElem?_toList]
    have h1 : j < ts.length := by omega
    have h2 : j < cur.size := by omega
    simp [putCells, hj, h1, h2, List.getElem?_take]
  · rw [List.getElem?_take_eq_none (by omega), List.getElem?_eq_none (by simp; omega)]
end
/-- A row that is not nil, as a block. -/
theorem own_block {w : World} {base e size n c : Nat} {g : Nat} {xs : List Value} (h : w.ownsRow base e size (.slice (some ⟨g, 0, none⟩) n c) n xs) : ∃ cur, base ≤ g ∧ w.heap[g]? = some (.cells cur e (0, 0)) ∧ n ≤ c ∧ c ≤ maxLen ∧ cur.size = c * size ∧ cur.toList.take (n * size) = xs := by
  rcases h.2 with ⟨h0, _⟩ | ⟨g', cap', cur, hv, hg, hb, hn, hcap, hs, ht⟩
  · cases h0
  · cases hv; exact ⟨cur, hg, hb, hn, hcap, hs, ht⟩
theorem own_some {w : World} {base e size n : Nat} {v : Value} {xs : List Value} (h : w.ownsRow base e size v n xs) (hn : 0 < n) : ∃ g c, v = .slice (some ⟨g, 0, none⟩) n c := by
  rcases h.2 with ⟨_, h0⟩ | ⟨g', cap', cur, hv, _⟩
  · omega
  · exact ⟨g', cap', hv⟩

/-- A link's two cells. -/
def kc (k : Lk) : List Value := [.int .i64 k.1, .int .i64 k.2]
def kcs (l : List Lk) : List Value := l.flatMap kc
theorem kcs_cons (k : Lk) (l : List Lk) : kcs (k :: l) = .int .i64 k.1 :: .int .i64 k.2 :: kcs l := rfl
theorem kcs_snoc (l : List Lk) (k : Lk) : kcs (l ++ [k]) = kcs l ++ kc k := by simp [kcs]
theorem kcs_len (l : List Lk) : (kcs l).length = l.length * 2 := by
  induction l with
  | nil => rfl
  | cons k l ih => rw [kcs_cons, List.length_cons, List.length_cons, List.length_cons, ih]; omega
theorem kcs_one (l : List Lk) : ∀ v ∈ kcs l, v.oneCell' = true := by
  intro v hv
  obtain ⟨k, _, hk⟩ := List.mem_flatMap.1 hv
  simp only [kc, List.mem_cons, List.not_mem_nil, or_false] at hk
  rcases hk with rfl | rfl <;> rfl
theorem kcs_get : ∀ (ks : List Lk) (t : Nat), t < ks.length * 2 → (kcs ks)[t]? = some ((kc (ks.toArray[t / 2]!))[t % 2]!)
  | [], t, h => by simp at h
  | k :: ks, 0, _ => by simp [kcs_cons, kc]
  | k :: ks, 1, _ => by simp [kcs_cons, kc]
  | k :: ks, t + 2, h => by
    rw [kcs_cons, List.getElem?_cons_succ, List.getElem?_cons_succ, kcs_get ks t (by simp at h; omega), show (t + 2) / 2 = t / 2 + 1 by omega, show (t + 2) % 2 = t % 2 by omega]
    simp
theorem flatK_kcs (ks : List Lk) : (flatK kc 2 ks.toArray).toList = kcs ks := by
  apply List.ext_getElem?
  intro t
  by_cases h : t < ks.length * 2
  · rw [kcs_get ks t h, Array.getElem?_toList]
    have h2 : t < (flatK kc 2 ks.toArray).size := by rw [size_flatK]; simpa using h
    have := get_flatK kc 2 ks.toArray t (by simpa using h)
    rw [getElem!_pos _ t h2] at this
    rw [Array.getElem?_eq_getElem h2, this]
  · rw [List.getElem?_eq_none (by rw [Array.length_toList, size_flatK]; simp; omega), List.getElem?_eq_none (by rw [kcs_len]; omega)]
theorem holds_kcs {w : World} {base e n c g : Nat} {ks : List Lk} (h : w.ownsRow base e 2 (.slice (some ⟨g, 0, none⟩) n c) n (kcs ks)) (hn : n = ks.length) : HoldsK kc 2 w g 0 ks.toArray := by
  obtain ⟨cur, _, hb, _, _, _, ht⟩ := own_block h
  have e1 : flatK kc 2 ks.toArray = (kcs ks).toArray := by rw [← flatK_kcs]
  show Holds id w g 0 _
  rw [e1]
  refine holds_of_blockE id hb ?_
  rw [kcs_len, ← hn, ht, List.map_id]
/-- Behind a sort the same slice owns the sorted links. -/
theorem sorted_kcs {w : World} {base e n c g m : Nat} {ks ts : List Lk} {os : Array Obj} (h : w.ownsRow base e 2 (.slice (some ⟨g, 0, none⟩) n c) n (kcs ks)) (hn : n = ks.length) (hl : ts.length = ks.length) :
    (sortWorldK kc 2 w g 0 m ts.toArray os).ownsRow base e 2 (.slice (some ⟨g, 0, none⟩) n c) n (kcs ts) ∧ Fr (OneB g) w (sortWorldK kc 2 w g 0 m ts.toArray os) := by
  obtain ⟨cur, h0, hb, h1, h2, h3, ht⟩ := own_block h
  have e1 : flatK kc 2 ts.toArray = (kcs ts).toArray := by rw [← flatK_kcs]
  have e2 : sortWorldK kc 2 w g 0 m ts.toArray os = grow (putRow id (Sort.ahead w m) g 0 (kcs ts).toArray) os := by
    unfold sortWorldK putRowK; rw [e1]
  rw [e2]
  refine ⟨⟨by rw [kcs_len, hl, hn], .inr ⟨g, c, _, rfl, h0, heap_putE id _ hb, h1, h2, by simp [putCells, h3], ?_⟩⟩, fr_putE id _⟩
  have hk : (kcs ts).length = n * 2 := by rw [kcs_len, hl, hn]
  rw [← hk, take_putCellsE id cur (kcs ts) _ (Nat.le_refl _) (by rw [hk, h3]; exact Nat.mul_le_mul_right 2 h1), List.take_length, List.map_id]

/-- The order that Links sorts by. -/
def cfK (x y : Lk) : Int := if Lib.compareInt x.1 y.1 ≠ 0 then Lib.compareInt x.1 y.1 else Lib.compareInt x.2 y.2
theorem ltOf_cfK (x y : Lk) : ltOf cfK x y = ltK x y := by
  unfold ltOf cfK ltK Lib.compareInt
  by_cases h1 : x.1 < y.1
  · simp [h1]
  · by_cases h2 : y.1 < x.1
    · simp [h1, h2, show ¬ x.1 = y.1 by omega]
    · have h3 : x.1 = y.1 := by omega
      simp only [h3, Int.lt_irrefl, if_false]
      by_cases h4 : x.2 < y.2
      · simp [h4]
      · by_cases h5 : y.2 < x.2 <;> simp [h4, h5]
theorem swoK : SWO (ltOf cfK) where
  irrefl x := by rw [ltOf_cfK]; exact ltK_irr x
  trans x y z h1 h2 := by rw [ltOf_cfK] at *; exact ltK_trans h1 h2
  ntrans x y z h1 h2 := by
    rw [ltOf_cfK] at *
    cases h : ltK x z
    · rfl
    · rcases ltK_tri y x with h3 | h3 | h3
      · have := ltK_trans h3 h; rw [h2] at this; cases this
      · subst h3; rw [h2] at h; cases h
      · rw [h1] at h3; cases h3
/-- Sorted links, no one twice, rise. -/
theorem up_sorted {ks : List Lk} {d : Array Lk} (hn : ks.Nodup) (hp : PermIn 0 ks.toArray.size ks.toArray d) (hs : SortedIn (ltOf cfK) 0 ks.toArray.size d) : Up d.toList ∧ d.size = ks.length ∧ ∀ x, x ∈ d.toList ↔ x ∈ ks := by
  obtain ⟨h1, -, h3⟩ := hp
  have h1' : d.size = ks.length := by simpa using h1
  have e1 : d.extract 0 ks.toArray.size = d := by rw [← h1]; exact Array.extract_size
  rw [e1, Array.extract_size] at h3
  have hnd : d.toList.Nodup := (h3.nodup_iff).2 hn
  refine ⟨?_, h1', fun x => h3.mem_iff⟩
  rw [Up, List.pairwise_iff_getElem]
  intro i j hi hj hij
  have hi' : i < d.size := by simpa using hi
  have hj' : j < d.size := by simpa using hj
  have := hs i j (Nat.zero_le _) hij (by rw [← h1]; exact hj')
  rw [ltOf_cfK, getElem!_pos d j hj', getElem!_pos d i hi'] at this
  simp only [Array.getElem_toList]
  rcases ltK_tri d[i] d[j] with h | h | h
  · exact h
  · have := (List.nodup_iff_pairwise_ne.1 hnd)
    rw [List.pairwise_iff_getElem] at this
    exact absurd (by simpa using h) (this i j hi hj hij)
  · rw [h] at this; cases this
end Go.Proofs.Ytmgkenbfjlahpaa
