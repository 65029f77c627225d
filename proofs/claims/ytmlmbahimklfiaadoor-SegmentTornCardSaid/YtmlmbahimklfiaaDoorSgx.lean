/-
  Sgx: rows of deeds and of their ends that are made: one more at a time.
-/
import Derived.Test.YtmlmbahimklfiaaDoorDee
import Derived.Test.YtmlmbahimklfiaaDoorSgh
namespace Go.Proofs.YtmlmbahimklfiaaDoor
open Go.RowKit

theorem ownx_by {M : Nat → Prop} {w w' : World} {base e size n : Nat} {v : Value} {xs : List Value} (h : w.ownsRow base e size v n xs) (hf : Fr M w w') (hm : ∀ g, v.ownBlock = some g → ¬ M g) : w'.ownsRow base e size v n xs :=
  own_keep h fun g hg => hf.block g (h.lt g hg).2 (hm g hg)
theorem own_lowx {w : World} {B B' e size n : Nat} {v : Value} {xs : List Value} (h : w.ownsRow B e size v n xs) (hb : B' ≤ B) : w.ownsRow B' e size v n xs := by
  obtain ⟨h1, h2⟩ := h
  refine ⟨h1, ?_⟩
  rcases h2 with h2 | ⟨g, cap, cur, hv, hg, r⟩
  · exact .inl h2
  · exact .inr ⟨g, cap, cur, hv, Nat.le_trans hb hg, r⟩
theorem dcells_ones (f : Fd) (p : Pl) (n : Nat) : ∀ v ∈ (dcells f p n).toList, v.oneCell' = true := by
  intro v hv
  simp only [dcells, List.mem_cons, List.not_mem_nil, or_false] at hv
  rcases hv with h | h | h | h | h | h | h | h | h | h | h | h | h | h | h | h <;> subst h <;> rfl
/-- The cells of deeds, side by side. -/
def dsv (l : List (De × Pl)) : List Value := l.flatMap fun x => (dcells x.1.1 x.2 x.1.2.length).toList
@[simp] theorem dsv_nil : dsv [] = [] := rfl
theorem dsv_cons (x : De × Pl) (l : List (De × Pl)) : dsv (x :: l) = (dcells x.1.1 x.2 x.1.2.length).toList ++ dsv l := rfl
theorem dsv_append (a b : List (De × Pl)) : dsv (a ++ b) = dsv a ++ dsv b := by simp [dsv]
theorem dsv_one (x : De × Pl) : dsv [x] = (dcells x.1.1 x.2 x.1.2.length).toList := by simp [dsv]
theorem dsv_oneCell (l : List (De × Pl)) : ∀ v ∈ dsv l, v.oneCell' = true := by
  intro v hv
  obtain ⟨x, _, hx⟩ := List.mem_flatMap.1 hv
  exact dcells_ones _ _ _ v hx
theorem dsv_get {l : List (De × Pl)} {i : Nat} {x : De × Pl} (h : l[i]? = some x) (j : Nat) (v : Value) (hv : (dcells x.1.1 x.2 x.1.2.length)[j]? = some v) : (dsv l)[i * 16 + j]? = some v := by
  induction l generalizing i with
  | nil => simp at h
  | cons y l ih =>
    have hj : j < 16 := by
      have := (Array.getElem?_eq_some_iff.1 hv).1
      simpa [dcells] using this
    rw [dsv_cons]
    cases i with
    | zero =>
      simp only [List.getElem?_cons_zero, Option.some.injEq] at h
      subst h
      rw [Nat.zero_mul, Nat.zero_add, List.getElem?_append_left (by simp [dcells]; omega)]
      simpa using hv
    | succ i =>
      rw [List.getElem?_cons_succ] at h
      have h16 : (dcells y.1.1 y.2 y.1.2.length).toList.length = 16 := by simp [dcells]
      rw [List.getElem?_append_right (by rw [h16]; omega), h16, show (i + 1) * 16 + j - 16 = i * 16 + j by omega]
      exact ih h
/-- Numbers as cells. -/
def nvs (l : List Int) : List Value := l.map fun x => .int .i64 x
/-- A deed of the row: where its lists lie, off the rows V and U. -/
structure PartE (n0 : Nat) (w : World) (V U : Value) (x : De × Pl) : Prop where
  e : ∃ lo hi, n0 ≤ lo ∧ hi ≤ w.heap.size ∧ (∀ g, (V.ownBlock = some g ∨ U.ownBlock = some g) → ¬ (lo ≤ g ∧ g < hi)) ∧ RdD w lo hi x.1.1 x.2 x.1.2
theorem PartE.keep {n0 : Nat} {w w1 : World} {V V1 U U1 : Value} {x : De × Pl} {M : Nat → Prop} (h : PartE n0 w V U x) (f : Fr M w w1) (hm : ∀ k, M k → k < n0 ∨ w.heap.size ≤ k ∨ V.ownBlock = some k ∨ U.ownBlock = some k) (hv : ∀ g, V1.ownBlock = some g ∨ U1.ownBlock = some g → (V.ownBlock = some g ∨ U.ownBlock = some g) ∨ w.heap.size ≤ g) : PartE n0 w1 V1 U1 x := by
  obtain ⟨lo, hi, h1, h2, h3, h4⟩ := h.e
  have hfar : ∀ k, lo ≤ k → k < hi → ¬ M k := fun k a b c => by
    rcases hm k c with h | h | h
    · omega
    · omega
    · exact h3 k h ⟨a, b⟩
  refine ⟨lo, hi, h1, Nat.le_trans h2 f.size, fun g hg => ?_, h4.fr f h2 hfar⟩
  rcases hv g hg with h | h
  · exact h3 g h
  · omega
/-- Deeds and their ends under way: two rows of one's own, in blocks of their own from n0 on. -/
structure DE (n0 : Nat) (w : World) (V U : Value) (L : List (De × Pl)) (es : List Int) : Prop where
  own : w.ownsRow n0 35 16 V L.length (dsv L)
  ends : w.ownsRow n0 3 1 U es.length (nvs es)
  apart : ∀ g, V.ownBlock = some g → U.ownBlock ≠ some g
  parts : ∀ x ∈ L, PartE n0 w V U x
theorem DE.nil (n0 : Nat) (w : World) : DE n0 w (.slice none 0 0) (.slice none 0 0) [] [] := ⟨World.ownsRow_nil _ _ _ _, World.ownsRow_nil _ _ _ _, fun g hg => by simp [Value.ownBlock] at hg, fun x hx => absurd hx (by simp)⟩
theorem DE.keep {n0 : Nat} {w w1 : World} {V U : Value} {L : List (De × Pl)} {es : List Int} {M : Nat → Prop} (h : DE n0 w V U L es) (fr : Fr M w w1) (hm : ∀ k, M k → k < n0 ∨ w.heap.size ≤ k) : DE n0 w1 V U L es :=
  ⟨ownx_by h.own fr (fun g hg hx => by have := h.own.lt g hg; rcases hm g hx with h | h <;> omega), ownx_by h.ends fr (fun g hg hx => by have := h.ends.lt g hg; rcases hm g hx with h | h <;> omega), h.apart, fun x hx => (h.parts x hx).keep fr (fun k hk => (hm k hk).elim .inl (fun h => .inr (.inl h))) (fun _g hg => .inl hg)⟩
theorem DE.low {n0 n1 : Nat} {w : World} {V U : Value} {L : List (De × Pl)} {es : List Int} (h : DE n0 w V U L es) (hn : n1 ≤ n0) : DE n1 w V U L es :=
  ⟨own_lowx h.own hn, own_lowx h.ends hn, h.apart, fun x hx => by obtain ⟨lo, hi, h1, h2⟩ := (h.parts x hx).e; exact ⟨lo, hi, Nat.le_trans hn h1, h2⟩⟩
theorem DE.then {n0 : Nat} {w w1 : World} {V U : Value} {L : List (De × Pl)} {es : List Int} (h : DE n0 w V U L es) (fr : Fr NoB w w1) : DE n0 w1 V U L es := h.keep fr (fun _ hk => hk.elim)
theorem app_blocks {n0 size N : Nat} {e : TypeId} {V V' : Value} {ys : List Value} {w w' : World} (hA : App n0 e size V N ys w V' w') : ∀ g, V'.ownBlock = some g → V.ownBlock = some g ∨ w.heap.size ≤ g := fun g hg => by
  rcases hA.at_ with h | h
  · exact .inl (h ▸ hg)
  · rw [h] at hg; cases hg; exact .inr (Nat.le_refl _)
/-- One deed more. -/
theorem DE.pushV {n0 : Nat} {w w' : World} {V V' U : Value} {L : List (De × Pl)} {es : List Int} {x : De × Pl} (h : DE n0 w V U L es) (hx : PartE n0 w V U x) (hA : App n0 35 16 V (L.length + 1) (dsv L ++ dsv [x]) w V' w') : DE n0 w' V' U (L ++ [x]) es := by
  have hV := app_blocks hA
  have hv : ∀ g, V'.ownBlock = some g ∨ U.ownBlock = some g → (V.ownBlock = some g ∨ U.ownBlock = some g) ∨ w.heap.size ≤ g := fun g hg => by
    rcases hg with hg | hg
    · exact (hV g hg).elim (fun h => .inl (.inl h)) .inr
    · exact .inl (.inr hg)
  refine ⟨by rw [List.length_append, dsv_append]; exact hA.own, ownx_by h.ends hA.fr (fun g hg hx => h.apart g hx hg), fun g hg hu => ?_, fun y hy => ?_⟩
  · rcases hV g hg with h1 | h1
    · exact h.apart g h1 hu
    · have := (h.ends.lt g hu).2; omega
  · rcases List.mem_append.1 hy with hy | hy
    · exact (h.parts y hy).keep hA.fr (fun k hk => .inr (.inr (.inl hk))) hv
    · simp only [List.mem_singleton] at hy
      subst hy
      exact hx.keep hA.fr (fun k hk => .inr (.inr (.inl hk))) hv
/-- One end more. -/
theorem DE.pushU {n0 : Nat} {w w' : World} {V U U' : Value} {L : List (De × Pl)} {es : List Int} {x : Int} (h : DE n0 w V U L es) (hA : App n0 3 1 U (es.length + 1) (nvs es ++ nvs [x]) w U' w') : DE n0 w' V U' L (es ++ [x]) := by
  have hU := app_blocks hA
  have hv : ∀ g, V.ownBlock = some g ∨ U'.ownBlock = some g → (V.ownBlock = some g ∨ U.ownBlock = some g) ∨ w.heap.size ≤ g := fun g hg => by
    rcases hg with hg | hg
    · exact .inl (.inl hg)
    · exact (hU g hg).elim (fun h => .inl (.inr h)) .inr
  refine ⟨ownx_by h.own hA.fr (fun g hg hx => h.apart g hg hx), by rw [List.length_append, show nvs (es ++ [x]) = nvs es ++ nvs [x] by simp [nvs]]; exact hA.own, fun g hg hu => ?_, fun y hy => (h.parts y hy).keep hA.fr (fun k hk => .inr (.inr (.inr hk))) hv⟩
  rcases hU g hu with h1 | h1
  · exact h.apart g hg h1
  · have := (h.own.lt g hg).2; omega
end Go.Proofs.YtmlmbahimklfiaaDoor
