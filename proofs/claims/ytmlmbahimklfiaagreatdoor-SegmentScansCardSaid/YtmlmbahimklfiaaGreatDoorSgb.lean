/-
  Sgb: Sgx, Sgb, Sgc.
-/
import Derived.Test.YtmlmbahimklfiaaGreatDoorDee
import Derived.Test.YtmlmbahimklfiaaGreatDoorSgh
import Derived.Test.YtmlmbahimklfiaaGreatDoorDbl
import Derived.Deep.RegionHeld3
/- Sgx -/
namespace Go.Proofs.YtmlmbahimklfiaaGreatDoor
open Go.RowKit

theorem ownx_by {M : Nat → Prop} {w w' : World} {base e size n : Nat} {v : Value} {xs : List Value} (h : w.ownsRow base e size v n xs) (hf : Fr M w w') (hm : ∀ g, v.ownBlock = some g → ¬ M g) : w'.ownsRow base e size v n xs :=
  own_keep h fun g hg => hf.block g (h.lt g hg).2 (hm g hg)
theorem own_lowx {w : World} {B B' e size n : Nat} {v : Value} {xs : List Value} (h : w.ownsRow B e size v n xs) (hb : B' ≤ B) : w.ownsRow B' e size v n xs := by
  obtain ⟨h1, h2⟩ := h
  refine ⟨h1, ?_⟩
  rcases h2 with h2 | ⟨g, cap, cur, hv, hg, r⟩
  · exact .inl h2
  · exact .inr ⟨g, cap, cur, hv, Nat.le_trans hb hg, r⟩
theorem dcells_ones (f : Fd) (p : Pl) (n : Nat) : ∀ v ∈ (dcells f p n).toList, v.oneCell' = true := by
  intro v hv
  simp only [dcells, List.mem_cons, List.not_mem_nil, or_false] at hv
  rcases hv with h | h | h | h | h | h | h | h | h | h | h | h | h | h | h | h <;> subst h <;> rfl
/-- The cells of deeds, side by side. -/
def dsv (l : List (De × Pl)) : List Value := l.flatMap fun x => (dcells x.1.1 x.2 x.1.2.length).toList
@[simp] theorem dsv_nil : dsv [] = [] := rfl
theorem dsv_cons (x : De × Pl) (l : List (De × Pl)) : dsv (x :: l) = (dcells x.1.1 x.2 x.1.2.length).toList ++ dsv l := rfl
theorem dsv_append (a b : List (De × Pl)) : dsv (a ++ b) = dsv a ++ dsv b := by simp [dsv]
theorem dsv_one (x : De × Pl) : dsv [x] = (dcells x.1.1 x.2 x.1.2.length).toList := by simp [dsv]
theorem dsv_oneCell (l : List (De × Pl)) : ∀ v ∈ dsv l, v.oneCell' = true := by
  intro v hv
  obtain ⟨x, _, hx⟩ := List.mem_flatMap.1 hv
  exact dcells_ones _ _ _ v hx
theorem dsv_get {l : List (De × Pl)} {i : Nat} {x : De × Pl} (h : l[i]? = some x) (j : Nat) (v : Value) (hv : (dcells x.1.1 x.2 x.1.2.length)[j]? = some v) : (dsv l)[i * 16 + j]? = some v := by
  induction l generalizing i with
  | nil => simp at h
  | cons y l ih =>
    have hj : j < 16 := by
      have := (Array.getElem?_eq_some_iff.1 hv).1
      simpa [dcells] using this
    rw [dsv_cons]
    cases i with
    | zero =>
      simp only [List.getElem?_cons_zero, Option.some.injEq] at h
      subst h
      rw [Nat.zero_mul, Nat.zero_add, List.getElem?_append_left (by simp [dcells]; omega)]
      simpa using hv
    | succ i =>
      rw [List.getElem?_cons_succ] at h
      have h16 : (dcells y.1.1 y.2 y.1.2.length).toList.length = 16 := by simp [dcells]
      rw [List.getElem?_append_right (by rw [h16]; omega), h16, show (i + 1) * 16 + j - 16 = i * 16 + j by omega]
      exact ih h
/-- Numbers as cells. -/
def nvs (l : List Int) : List Value := l.map fun x => .int .i64 x
/-- A deed of the row: where its lists lie, off the rows V and U. -/
structure PartE (n0 : Nat) (w : World) (V U : Value) (x : De × Pl) : Prop where
  e : ∃ lo hi, n0 ≤ lo ∧ hi ≤ w.heap.size ∧ (∀ g, (V.ownBlock = some g ∨ U.ownBlock = some g) → ¬ (lo ≤ g ∧ g < hi)) ∧ RdD w lo hi x.1.1 x.2 x.1.2
theorem PartE.keep {n0 : Nat} {w w1 : World} {V V1 U U1 : Value} {x : De × Pl} {M : Nat → Prop} (h : PartE n0 w V U x) (f : Fr M w w1) (hm : ∀ k, M k → k < n0 ∨ w.heap.size ≤ k ∨ V.ownBlock = some k ∨ U.ownBlock = some k) (hv : ∀ g, V1.ownBlock = some g ∨ U1.ownBlock = some g → (V.ownBlock = some g ∨ U.ownBlock = some g) ∨ w.heap.size ≤ g) : PartE n0 w1 V1 U1 x := by
  obtain ⟨lo, hi, h1, h2, h3, h4⟩ := h.e
  have hfar : ∀ k, lo ≤ k → k < hi → ¬ M k := fun k a b c => by
    rcases hm k c with h | h | h
    · omega
    · omega
    · exact h3 k h ⟨a, b⟩
  refine ⟨lo, hi, h1, Nat.le_trans h2 f.size, fun g hg => ?_, h4.fr f h2 hfar⟩
  rcases hv g hg with h | h
  · exact h3 g h
  · omega
/-- Deeds and their ends under way: two rows of one's own, in blocks of their own from n0 on. -/
structure DE (n0 : Nat) (w : World) (V U : Value) (L : List (De × Pl)) (es : List Int) : Prop where
  own : w.ownsRow n0 31 16 V L.length (dsv L)
  ends : w.ownsRow n0 3 1 U es.length (nvs es)
  apart : ∀ g, V.ownBlock = some g → U.ownBlock ≠ some g
  parts : ∀ x ∈ L, PartE n0 w V U x
theorem DE.nil (n0 : Nat) (w : World) : DE n0 w (.slice none 0 0) (.slice none 0 0) [] [] := ⟨World.ownsRow_nil _ _ _ _, World.ownsRow_nil _ _ _ _, fun g hg => by simp [Value.ownBlock] at hg, fun x hx => absurd hx (by simp)⟩
theorem DE.keep {n0 : Nat} {w w1 : World} {V U : Value} {L : List (De × Pl)} {es : List Int} {M : Nat → Prop} (h : DE n0 w V U L es) (fr : Fr M w w1) (hm : ∀ k, M k → k < n0 ∨ w.heap.size ≤ k) : DE n0 w1 V U L es :=
  ⟨ownx_by h.own fr (fun g hg hx => by have := h.own.lt g hg; rcases hm g hx with h | h <;> omega), ownx_by h.ends fr (fun g hg hx => by have := h.ends.lt g hg; rcases hm g hx with h | h <;> omega), h.apart, fun x hx => (h.parts x hx).keep fr (fun k hk => (hm k hk).elim .inl (fun h => .inr (.inl h))) (fun _g hg => .inl hg)⟩
theorem DE.low {n0 n1 : Nat} {w : World} {V U : Value} {L : List (De × Pl)} {es : List Int} (h : DE n0 w V U L es) (hn : n1 ≤ n0) : DE n1 w V U L es :=
  ⟨own_lowx h.own hn, own_lowx h.ends hn, h.apart, fun x hx => by obtain ⟨lo, hi, h1, h2⟩ := (h.parts x hx).e; exact ⟨lo, hi, Nat.le_trans hn h1, h2⟩⟩
theorem DE.then {n0 : Nat} {w w1 : World} {V U : Value} {L : List (De × Pl)} {es : List Int} (h : DE n0 w V U L es) (fr : Fr NoB w w1) : DE n0 w1 V U L es := h.keep fr (fun _ hk => hk.elim)
theorem app_blocks {n0 size N : Nat} {e : TypeId} {V V' : Value} {ys : List Value} {w w' : World} (hA : App n0 e size V N ys w V' w') : ∀ g, V'.ownBlock = some g → V.ownBlock = some g ∨ w.heap.size ≤ g := fun g hg => by
  rcases hA.at_ with h | h
  · exact .inl (h ▸ hg)
  · rw [h] at hg; cases hg; exact .inr (Nat.le_refl _)
/-- One deed more. -/
theorem DE.pushV {n0 : Nat} {w w' : World} {V V' U : Value} {L : List (De × Pl)} {es : List Int} {x : De × Pl} (h : DE n0 w V U L es) (hx : PartE n0 w V U x) (hA : App n0 31 16 V (L.length + 1) (dsv L ++ dsv [x]) w V' w') : DE n0 w' V' U (L ++ [x]) es := by
  have hV := app_blocks hA
  have hv : ∀ g, V'.ownBlock = some g ∨ U.ownBlock = some g → (V.ownBlock = some g ∨ U.ownBlock = some g) ∨ w.heap.size ≤ g := fun g hg => by
    rcases hg with hg | hg
    · exact (hV g hg).elim (fun h => .inl (.inl h)) .inr
    · exact .inl (.inr hg)
  refine ⟨by rw [List.length_append, dsv_append]; exact hA.own, ownx_by h.ends hA.fr (fun g hg hx => h.apart g hx hg), fun g hg hu => ?_, fun y hy => ?_⟩
  · rcases hV g hg with h1 | h1
    · exact h.apart g h1 hu
    · have := (h.ends.lt g hu).2; omega
  · rcases List.mem_append.1 hy with hy | hy
    · exact (h.parts y hy).keep hA.fr (fun k hk => .inr (.inr (.inl hk))) hv
    · simp only [List.mem_singleton] at hy
      subst hy
      exact hx.keep hA.fr (fun k hk => .inr (.inr (.inl hk))) hv
/-- One end more. -/
theorem DE.pushU {n0 : Nat} {w w' : World} {V U U' : Value} {L : List (De × Pl)} {es : List Int} {x : Int} (h : DE n0 w V U L es) (hA : App n0 3 1 U (es.length + 1) (nvs es ++ nvs [x]) w U' w') : DE n0 w' V U' L (es ++ [x]) := by
  have hU := app_blocks hA
  have hv : ∀ g, V.ownBlock = some g ∨ U'.ownBlock = some g → (V.ownBlock = some g ∨ U.ownBlock = some g) ∨ w.heap.size ≤ g := fun g hg => by
    rcases hg with hg | hg
    · exact .inl (.inl hg)
    · exact (hU g hg).elim (fun h => .inl (.inr h)) .inr
  refine ⟨ownx_by h.own hA.fr (fun g hg hx => h.apart g hg hx), by rw [List.length_append, show nvs (es ++ [x]) = nvs es ++ nvs [x] by simp [nvs]]; exact hA.own, fun g hg hu => ?_, fun y hy => (h.parts y hy).keep hA.fr (fun k hk => .inr (.inr (.inr hk))) hv⟩
  rcases hU g hu with h1 | h1
  · exact h.apart g hg h1
  · have := (h.own.lt g hg).2; omega
end Go.Proofs.YtmlmbahimklfiaaGreatDoor

/- Sgb -/
namespace Go.Proofs.YtmlmbahimklfiaaGreatDoor
open Go.RowKit

/-- Memory at A reads as these deeds. -/
def RdS (w : World) (lo hi : Nat) (A : Option Addr) (ds : List De) : Prop :=
  0 < ds.length → ∃ b o, A = some ⟨b, o, none⟩ ∧ lo ≤ b ∧ b < hi ∧ ∀ i d, ds[i]? = some d → ∃ pl : Pl, (∀ j v, (dcells d.1 pl d.2.length)[j]? = some v → w.cell? ⟨b, o + i * 16 + j, none⟩ = some v) ∧ RdD w lo hi d.1 pl d.2
theorem RdS.nil (w : World) (lo hi : Nat) (A : Option Addr) : RdS w lo hi A [] := fun h => absurd h (by simp)
theorem RdS.fr {M : Nat → Prop} {w w' : World} {lo hi : Nat} {A : Option Addr} {ds : List De} (h : RdS w lo hi A ds) (hf : Fr M w w') (hh : hi ≤ w.heap.size) (hm : ∀ k, lo ≤ k → k < hi → ¬ M k) : RdS w' lo hi A ds := fun hl => by
  obtain ⟨b, o, h1, h2, h3, h4⟩ := h hl
  refine ⟨b, o, h1, h2, h3, fun i q hq => ?_⟩
  obtain ⟨pl, k1, k2⟩ := h4 i q hq
  exact ⟨pl, fun j v hv => (hf.cell (p := ⟨b, o + i * 16 + j, none⟩) (Nat.lt_of_lt_of_le h3 hh) (hm _ h2 h3)).trans (k1 j v hv), k2.fr hf hh hm⟩
theorem RdS.take {w : World} {lo hi : Nat} {A : Option Addr} {ds : List De} (n : Nat) (h : RdS w lo hi A ds) : RdS w lo hi A (ds.take n) := fun hl => by
  obtain ⟨b, o, h1, h2, h3, h4⟩ := h (by rw [List.length_take] at hl; omega)
  refine ⟨b, o, h1, h2, h3, fun i q hq => h4 i q ?_⟩
  rw [List.getElem?_take] at hq
  split at hq
  · exact hq
  · cases hq
/-- One of them, as cells. -/
theorem RdS.get {w : World} {lo hi b o : Nat} {ds : List De} (hh : hi ≤ w.heap.size) {i : Nat} {d : De} (h : ∃ pl : Pl, (∀ j v, (dcells d.1 pl d.2.length)[j]? = some v → w.cell? ⟨b, o + i * 16 + j, none⟩ = some v) ∧ RdD w lo hi d.1 pl d.2) (_ : ds[i]? = some d) : ∃ cs, IsD w cs d.1 d.2 ∧ cs.size = 16 ∧ ∀ j v, cs[j]? = some v → w.cell? ⟨b, o + i * 16 + j, none⟩ = some v := by
  obtain ⟨pl, h1, h2⟩ := h
  exact ⟨_, ⟨pl, lo, hi, rfl, hh, h2⟩, rfl, h1⟩

set_option maxRecDepth 8000 in
set_option maxHeartbeats 6400000 in
theorem samess_calls (A A' : Option Addr) (ds : List De) (c c' lo hi lo' hi' : Nat) (w : World) (h : RdS w lo hi A ds) (hh : hi ≤ w.heap.size) (h' : RdS w lo' hi' A' ds) (hh' : hi' ≤ w.heap.size) (hl : ds.length ≤ 140737488355328) (hok : ∀ d ∈ ds, Fine d.1 d.2) :
    Calls Tryz.prog 12 #[.slice A ds.length c, .slice A' ds.length c'] w fun e w' => e = .returned (.bool true) ∧ Fr NoB w w' := by
  have HR := Lib.hid h
  have HR2 := Lib.hid h'
  have HOK := Lib.hid hok
  clear h h' hok
  go_enter Tryz.func12, Tryz.ntmps12
  go_wp2
  go_loopw [5] (fun i W => ∃ k : Nat, k ≤ ds.length ∧ i = .int .i64 (k : Int) ∧ Fr NoB w W) (fun i _ => ds.length - (intOf i).toNat)
  case atStart => exact ⟨0, Nat.zero_le _, rfl, Fr.refl _ _⟩
  case round =>
    obtain ⟨k, hk, rfl, hf⟩ := hrel
    have F := Lib.hid hf
    clear hf
    by_cases hlt : k < ds.length
    · have hki : (k : Int) < (ds.length : Int) := by omega
      have hk0 : (0 : Int) ≤ (k : Int) := by omega
      obtain ⟨b, o, rfl, hb1, hb2, h4⟩ := HR.out (by omega)
      obtain ⟨b2, o2, rfl, hb3, hb4, h5⟩ := HR2.out (by omega)
      obtain ⟨cs, his, hc16, hcs⟩ := RdS.get hh (h4 k ds[k] (List.getElem?_eq_getElem hlt)) (List.getElem?_eq_getElem hlt)
      obtain ⟨cs2, his2, hd16, hcs2⟩ := RdS.get hh' (h5 k ds[k] (List.getElem?_eq_getElem hlt)) (List.getElem?_eq_getElem hlt)
      have hq := HOK.out ds[k] (List.getElem_mem hlt)
      clear h4 h5
      generalize ds[k] = d at his his2 hq
      obtain ⟨x0, x1, x2, x3, x4, x5, x6, x7, x8, x9, x10, x11, x12, x13, x14, x15, rfl⟩ := atoms hc16
      obtain ⟨y0, y1, y2, y3, y4, y5, y6, y7, y8, y9, y10, y11, y12, y13, y14, y15, rfl⟩ := atoms hd16
      have HSD := Lib.hid (fun W (G : Fr NoB wr W) => b_same (his.fr (F.out.then G)) (his2.fr (F.out.then G)) hq)
      have HRG : Hid (∀ W, Fr NoB wr W → W.cell? ⟨b, o + k * 16, none⟩ = some x0 ∧ W.cell? ⟨b, o + k * 16 + 1, none⟩ = some x1 ∧ W.cell? ⟨b, o + k * 16 + 2, none⟩ = some x2 ∧ W.cell? ⟨b, o + k * 16 + 3, none⟩ = some x3 ∧ W.cell? ⟨b, o + k * 16 + 4, none⟩ = some x4 ∧ W.cell? ⟨b, o + k * 16 + 5, none⟩ = some x5 ∧ W.cell? ⟨b, o + k * 16 + 6, none⟩ = some x6 ∧ W.cell? ⟨b, o + k * 16 + 7, none⟩ = some x7 ∧ W.cell? ⟨b, o + k * 16 + 8, none⟩ = some x8 ∧ W.cell? ⟨b, o + k * 16 + 9, none⟩ = some x9 ∧ W.cell? ⟨b, o + k * 16 + 10, none⟩ = some x10 ∧ W.cell? ⟨b, o + k * 16 + 11, none⟩ = some x11 ∧ W.cell? ⟨b, o + k * 16 + 12, none⟩ = some x12 ∧ W.cell? ⟨b, o + k * 16 + 13, none⟩ = some x13 ∧ W.cell? ⟨b, o + k * 16 + 14, none⟩ = some x14 ∧ W.cell? ⟨b, o + k * 16 + 15, none⟩ = some x15 ∧ W.cell? ⟨b2, o2 + k * 16, none⟩ = some y0 ∧ W.cell? ⟨b2, o2 + k * 16 + 1, none⟩ = some y1 ∧ W.cell? ⟨b2, o2 + k * 16 + 2, none⟩ = some y2 ∧ W.cell? ⟨b2, o2 + k * 16 + 3, none⟩ = some y3 ∧ W.cell? ⟨b2, o2 + k * 16 + 4, none⟩ = some y4 ∧ W.cell? ⟨b2, o2 + k * 16 + 5, none⟩ = some y5 ∧ W.cell? ⟨b2, o2 + k * 16 + 6, none⟩ = some y6 ∧ W.cell? ⟨b2, o2 + k * 16 + 7, none⟩ = some y7 ∧ W.cell? ⟨b2, o2 + k * 16 + 8, none⟩ = some y8 ∧ W.cell? ⟨b2, o2 + k * 16 + 9, none⟩ = some y9 ∧ W.cell? ⟨b2, o2 + k * 16 + 10, none⟩ = some y10 ∧ W.cell? ⟨b2, o2 + k * 16 + 11, none⟩ = some y11 ∧ W.cell? ⟨b2, o2 + k * 16 + 12, none⟩ = some y12 ∧ W.cell? ⟨b2, o2 + k * 16 + 13, none⟩ = some y13 ∧ W.cell? ⟨b2, o2 + k * 16 + 14, none⟩ = some y14 ∧ W.cell? ⟨b2, o2 + k * 16 + 15, none⟩ = some y15) := fun W G => by
        have HC : ∀ j v, #[x0, x1, x2, x3, x4, x5, x6, x7, x8, x9, x10, x11, x12, x13, x14, x15][j]? = some v → W.cell? ⟨b, o + k * 16 + j, none⟩ = some v := fun j v hv => ((F.out.then G).cell (p := ⟨b, o + k * 16 + j, none⟩) (by simp only; omega) (fun x => x)).trans (hcs j v hv)
        have HC2 : ∀ j v, #[y0, y1, y2, y3, y4, y5, y6, y7, y8, y9, y10, y11, y12, y13, y14, y15][j]? = some v → W.cell? ⟨b2, o2 + k * 16 + j, none⟩ = some v := fun j v hv => ((F.out.then G).cell (p := ⟨b2, o2 + k * 16 + j, none⟩) (by simp only; omega) (fun x => x)).trans (hcs2 j v hv)
        exact ⟨HC 0 _ rfl, HC 1 _ rfl, HC 2 _ rfl, HC 3 _ rfl, HC 4 _ rfl, HC 5 _ rfl, HC 6 _ rfl, HC 7 _ rfl, HC 8 _ rfl, HC 9 _ rfl, HC 10 _ rfl, HC 11 _ rfl, HC 12 _ rfl, HC 13 _ rfl, HC 14 _ rfl, HC 15 _ rfl, HC2 0 _ rfl, HC2 1 _ rfl, HC2 2 _ rfl, HC2 3 _ rfl, HC2 4 _ rfl, HC2 5 _ rfl, HC2 6 _ rfl, HC2 7 _ rfl, HC2 8 _ rfl, HC2 9 _ rfl, HC2 10 _ rfl, HC2 11 _ rfl, HC2 12 _ rfl, HC2 13 _ rfl, HC2 14 _ rfl, HC2 15 _ rfl⟩
      clear hcs hcs2 his his2 hq HR HR2 HOK hc16 hd16
      go_wp2
      go_region_held3 (fun W => W.cell? ⟨b, o + k * 16, none⟩ = some x0 ∧ W.cell? ⟨b, o + k * 16 + 1, none⟩ = some x1 ∧ W.cell? ⟨b, o + k * 16 + 2, none⟩ = some x2 ∧ W.cell? ⟨b, o + k * 16 + 3, none⟩ = some x3 ∧ W.cell? ⟨b, o + k * 16 + 4, none⟩ = some x4 ∧ W.cell? ⟨b, o + k * 16 + 5, none⟩ = some x5 ∧ W.cell? ⟨b, o + k * 16 + 6, none⟩ = some x6 ∧ W.cell? ⟨b, o + k * 16 + 7, none⟩ = some x7 ∧ W.cell? ⟨b, o + k * 16 + 8, none⟩ = some x8 ∧ W.cell? ⟨b, o + k * 16 + 9, none⟩ = some x9 ∧ W.cell? ⟨b, o + k * 16 + 10, none⟩ = some x10 ∧ W.cell? ⟨b, o + k * 16 + 11, none⟩ = some x11 ∧ W.cell? ⟨b, o + k * 16 + 12, none⟩ = some x12 ∧ W.cell? ⟨b, o + k * 16 + 13, none⟩ = some x13 ∧ W.cell? ⟨b, o + k * 16 + 14, none⟩ = some x14 ∧ W.cell? ⟨b, o + k * 16 + 15, none⟩ = some x15 ∧ W.cell? ⟨b2, o2 + k * 16, none⟩ = some y0 ∧ W.cell? ⟨b2, o2 + k * 16 + 1, none⟩ = some y1 ∧ W.cell? ⟨b2, o2 + k * 16 + 2, none⟩ = some y2 ∧ W.cell? ⟨b2, o2 + k * 16 + 3, none⟩ = some y3 ∧ W.cell? ⟨b2, o2 + k * 16 + 4, none⟩ = some y4 ∧ W.cell? ⟨b2, o2 + k * 16 + 5, none⟩ = some y5 ∧ W.cell? ⟨b2, o2 + k * 16 + 6, none⟩ = some y6 ∧ W.cell? ⟨b2, o2 + k * 16 + 7, none⟩ = some y7 ∧ W.cell? ⟨b2, o2 + k * 16 + 8, none⟩ = some y8 ∧ W.cell? ⟨b2, o2 + k * 16 + 9, none⟩ = some y9 ∧ W.cell? ⟨b2, o2 + k * 16 + 10, none⟩ = some y10 ∧ W.cell? ⟨b2, o2 + k * 16 + 11, none⟩ = some y11 ∧ W.cell? ⟨b2, o2 + k * 16 + 12, none⟩ = some y12 ∧ W.cell? ⟨b2, o2 + k * 16 + 13, none⟩ = some y13 ∧ W.cell? ⟨b2, o2 + k * 16 + 14, none⟩ = some y14 ∧ W.cell? ⟨b2, o2 + k * 16 + 15, none⟩ = some y15) (first
        | with_reducible exact HRG.out _ ((Fr.refl NoB wr).drew)
        | with_reducible exact HRG.out _ (((Fr.refl NoB wr).drew).then f2)) (first
        | ((with_reducible refine (HSD.out _ ((Fr.refl NoB wr).drew)).mono ?_); rintro e w2 ⟨rfl, f2⟩))
      all_goals
        go_wp2
        go_roundw
        case rel => exact ⟨k + 1, by omega, by go_num, (F.out.drew).then f2⟩
        case measure => simp [intOf]; omega
    · obtain rfl : k = ds.length := by omega
      clear HR HR2 HOK hlt hk
      go_wp2
      go_ret
      exact ⟨rfl, F.out⟩
end Go.Proofs.YtmlmbahimklfiaaGreatDoor

/- Sgc -/
namespace Go.Proofs.YtmlmbahimklfiaaGreatDoor
open Go.RowKit

theorem DE.rd {n0 : Nat} {w : World} {c : Nat} {A : Option Addr} {U : Value} {L : List (De × Pl)} {es : List Int} (h : DE n0 w (.slice A L.length c) U L es) : RdS w n0 w.heap.size A (L.map (·.1)) := fun hl => by
  rw [List.length_map] at hl
  obtain ⟨g, cap, hv, hb, hlt⟩ := h.own.form hl
  have hP : A = some ⟨g, 0, none⟩ := by injection hv
  refine ⟨g, 0, hP, hb, hlt, fun i q hq => ?_⟩
  rw [List.getElem?_map] at hq
  cases hx : L[i]? with
  | none => rw [hx] at hq; cases hq
  | some x =>
    rw [hx] at hq
    simp only [Option.map_some, Option.some.injEq] at hq
    subst hq
    obtain ⟨lo, hi, h1, h2, h3, h4⟩ := (h.parts x (List.mem_of_getElem? hx)).e
    refine ⟨x.2, fun j v hv => ?_, h4.data.wide h1 h2, h4.ms.wide h1 h2, h4.parts.wide h1 h2⟩
    have := h.own.cells (g := g) (by rw [hP]; rfl) (i * 16 + j) v (dsv_get hx j v hv)
    rw [Lib.addr_add, Nat.zero_add] at this
    rw [Nat.zero_add]
    exact this
end Go.Proofs.YtmlmbahimklfiaaGreatDoor
