/-
  Ntt: the document's Links.
-/
import Derived.Test.YtmgkenbfjlahpaaNts
namespace Go.Proofs.Ytmgkenbfjlahpaa
open Go.RowKit Go.WideMaps Go.Sort

/-- How many links of a row come ahead of a link. -/
def lowN (x : Lk) (l : List Lk) : Nat := (l.takeWhile fun y => ltK y x).length
theorem putK_low (x : Lk) (l : List Lk) : putK x l = if l[lowN x l]? = some x then l else l.take (lowN x l) ++ [x] ++ l.drop (lowN x l) := by
  induction l with
  | nil => simp [putK, lowN]
  | cons y l ih =>
    unfold putK lowN
    by_cases h : ltK y x = true
    · rw [if_pos h, List.takeWhile_cons, if_pos h, ih]
      simp only [List.length_cons, List.getElem?_cons_succ, List.take_succ_cons, List.drop_succ_cons, List.cons_append]
      have hc : lowN x l = (l.takeWhile fun y => ltK y x).length := rfl
      rw [← hc]
      by_cases hk : l[lowN x l]? = some x
      · rw [if_pos hk, if_pos hk]
      · rw [if_neg hk, if_neg hk]
    · rw [if_neg h, List.takeWhile_cons, if_neg h]
      simp only [List.length_nil, List.getElem?_cons_zero, Option.some.injEq, List.take_zero, List.nil_append, List.drop_zero]
      by_cases e : y = x
      · rw [if_pos e, if_pos e]
      · rw [if_neg e, if_neg e]; rfl
theorem low_le (x : Lk) (l : List Lk) : lowN x l ≤ l.length := by unfold lowN; exact List.Sublist.length_le (List.takeWhile_sublist _)
theorem low_is {x : Lk} : ∀ {l : List Lk} {t : Nat}, t ≤ l.length → (∀ i y, i < t → l[i]? = some y → ltK y x = true) → (∀ y, l[t]? = some y → ltK y x = false) → lowN x l = t
  | [], t, ht, _, _ => by simp at ht; subst ht; rfl
  | y :: l, 0, _, _, h => by
    unfold lowN
    rw [List.takeWhile_cons, if_neg (by rw [h y rfl]; simp)]; rfl
  | y :: l, t + 1, ht, h1, h2 => by
    unfold lowN
    rw [List.takeWhile_cons, if_pos (h1 0 y (by omega) rfl), List.length_cons]
    have := low_is (x := x) (l := l) (t := t) (by simpa using ht) (fun i z hi hz => h1 (i + 1) z (by omega) (by simpa using hz)) (fun z hz => h2 z (by simpa using hz))
    unfold lowN at this
    rw [this]
theorem links_snoc {α : Type} (L : List (Lk × α)) (x : Lk × α) : linksL (L ++ [x]) = putK x.1 (linksL L) := by
  unfold linksL; rw [List.foldl_append]; rfl
theorem putK_len (x : Lk) (l : List Lk) : (putK x l).length ≤ l.length + 1 := by
  induction l with
  | nil => simp [putK]
  | cons y l ih => unfold putK; split; · simp; omega
                   · split <;> simp
theorem links_len {α : Type} (L : List (Lk × α)) : (linksL L).length ≤ L.length := by
  unfold linksL
  suffices h : ∀ (L : List (Lk × α)) (l : List Lk), (L.foldl (fun l x => putK x.1 l) l).length ≤ l.length + L.length by
    have := h L []; simpa using this
  intro L
  induction L with
  | nil => intro l; simp
  | cons x L ih =>
    intro l
    rw [List.foldl_cons, List.length_cons]
    have := ih (putK x.1 l)
    have := putK_len x.1 l
    omega
theorem kcs_append (a b : List Lk) : kcs (a ++ b) = kcs a ++ kcs b := by simp [kcs]
theorem kcs_take (V : List Lk) (i : Nat) : (kcs V).take (i * 2) = kcs (V.take i) := by
  induction V generalizing i with
  | nil => simp [kcs]
  | cons x V ih =>
    cases i with
    | zero => simp [kcs]
    | succ i => rw [kcs_cons, List.take_succ_cons, kcs_cons, show (i + 1) * 2 = i * 2 + 1 + 1 by omega, List.take_succ_cons, List.take_succ_cons, ih]
theorem kcs_drop (V : List Lk) (i : Nat) : (kcs V).drop (i * 2) = kcs (V.drop i) := by
  induction V generalizing i with
  | nil => simp [kcs]
  | cons x V ih =>
    cases i with
    | zero => simp
    | succ i => rw [kcs_cons, List.drop_succ_cons, show (i + 1) * 2 = i * 2 + 1 + 1 by omega, List.drop_succ_cons, List.drop_succ_cons, ih]
set_option maxRecDepth 20000 in
theorem lk_eql (x0 x1 y0 y1 : Int) (W : World) : (binOp .eql 52 (.agg #[.int .i64 x0, .int .i64 x1]) (.agg #[.int .i64 y0, .int .i64 y1])).run Try.prog W = .ok (.bool ((x0, x1) == (y0, y1))) W := by
  obtain ⟨d, hd⟩ : ∃ d, 10000 = d + 1 + 1 := ⟨9998, rfl⟩
  obtain ⟨i, hi, _⟩ := info_parts info_int
  have hq : (binOp .eql 52 (.agg #[.int .i64 x0, .int .i64 x1]) (.agg #[.int .i64 y0, .int .i64 y1])).run Try.prog W = ((Op.equalIn 10000 52 (.agg #[.int .i64 x0, .int .i64 x1]) (.agg #[.int .i64 y0, .int .i64 y1])).run Try.prog W).andThen fun b w' => .ok (.bool b) w' := by
    simp only [binOp]
    simp [Op.equal, Op.maxDepth]
  rw [hq, hd, run_equalIn_array W _ _ _ Try.underlying52 hi]
  have hc : Try.prog.cellsOf 3 = 1 := by kernel_rfl
  rw [hc]
  have hb : ((x0, x1) == (y0, y1)) = decide (x0 = y0 ∧ x1 = y1) := by rw [Bool.eq_iff_iff]; simp
  rw [hb, show List.range 2 = [0, 1] from rfl]
  simp [go_sem, Op.eqItems, Try.underlying3]
  by_cases h0 : x0 = y0 <;> by_cases h1 : x1 = y1 <;> simp [h0, h1]
theorem ksrc_take {w W : World} {g : Nat} {V : List Lk} (F : Fr NoB w W) (hg : g < w.heap.size) (h : ∀ (j : Nat) u, (kcs V)[j]? = some u → w.cell? ((⟨g, 0, none⟩ : Addr).add j) = some u) (i : Nat) :
    ∀ (j : Nat) u, (kcs (V.take i))[j]? = some u → W.cell? ((⟨g, 0, none⟩ : Addr).add j) = some u := fun j u hu => by
  rw [← kcs_take] at hu
  have hj : (kcs V)[j]? = some u := by
    by_cases hlt : j < i * 2
    · rwa [List.getElem?_take_of_lt hlt] at hu
    · rw [List.getElem?_take_eq_none (by omega)] at hu; cases hu
  have h2 := h j u hj
  rw [Lib.addr_add] at h2 ⊢
  exact (F.cell (p := ⟨g, 0 + j, none⟩) hg (fun x => x)).trans h2
theorem ksrc_drop {w W : World} {g : Nat} {V : List Lk} (F : Fr NoB w W) (hg : g < w.heap.size) (h : ∀ (j : Nat) u, (kcs V)[j]? = some u → w.cell? ((⟨g, 0, none⟩ : Addr).add j) = some u) (i : Nat) :
    ∀ (j : Nat) u, (kcs (V.drop i))[j]? = some u → W.cell? ((⟨g, i * 2, none⟩ : Addr).add j) = some u := fun j u hu => by
  rw [← kcs_drop, List.getElem?_drop] at hu
  have h2 := h _ u hu
  rw [Lib.addr_add, Nat.zero_add] at h2
  rw [Lib.addr_add]
  exact (F.cell (p := ⟨g, i * 2 + j, none⟩) hg (fun x => x)).trans h2
theorem kcs_take_len {V : List Lk} {i : Nat} (h : i ≤ V.length) : (kcs (V.take i)).length = i * 2 := by rw [kcs_len, List.length_take, Nat.min_eq_left h]
theorem kcs_drop_len {V : List Lk} (i : Nat) : (kcs (V.drop i)).length = (V.length - i) * 2 := by rw [kcs_len, List.length_drop]
theorem putK_ins {x : Lk} {l : List Lk} {t : Nat} (h : lowN x l = t) (hn : l[t]? ≠ some x) : putK x l = l.take t ++ [x] ++ l.drop t := by rw [putK_low, h, if_neg hn]
theorem putK_same {x : Lk} {l : List Lk} {t : Nat} (h : lowN x l = t) (hn : l[t]? = some x) : putK x l = l := by rw [putK_low, h, if_pos hn]
theorem bdk {t n : Nat} (h : t ≤ n) (hn : n < 1000000000) : (0 + t ≤ maxLen ∧ (0 + t) * 16 ≤ 140737488355328) ∧ (t + 1 ≤ maxLen ∧ (t + 1) * 16 ≤ 140737488355328) ∧ (t + 1 + (n - t) ≤ maxLen ∧ (t + 1 + (n - t)) * 16 ≤ 140737488355328) := by unfold maxLen; omega
theorem lt_row {x1 x2 y1 y2 : Int} : ltK (y1, y2) (x1, x2) = (decide (y1 < x1) || (decide (y1 = x1) && decide (y2 < x2))) := rfl
theorem kc_one (x : Lk) : ∀ u ∈ kc x, u.oneCell' = true := by
  intro u hu
  simp only [kc, List.mem_cons, List.not_mem_nil, or_false] at hu
  rcases hu with rfl | rfl <;> rfl
end Go.Proofs.Ytmgkenbfjlahpaa
