/-
  Sgb: rows of deeds, with their parts.
-/
import Derived.Test.YtmlmbahimklfiaaDoorDbl
import Derived.Test.YtmlmbahimklfiaaDoorSgh
import Derived.Deep.RegionHeld3
namespace Go.Proofs.YtmlmbahimklfiaaDoor
open Go.RowKit

/-- Memory at A reads as these deeds. -/
def RdS (w : World) (lo hi : Nat) (A : Option Addr) (ds : List De) : Prop :=
  0 < ds.length → ∃ b o, A = some ⟨b, o, none⟩ ∧ lo ≤ b ∧ b < hi ∧ ∀ i d, ds[i]? = some d → ∃ pl : Pl, (∀ j v, (dcells d.1 pl d.2.length)[j]? = some v → w.cell? ⟨b, o + i * 16 + j, none⟩ = some v) ∧ RdD w lo hi d.1 pl d.2
theorem RdS.nil (w : World) (lo hi : Nat) (A : Option Addr) : RdS w lo hi A [] := fun h => absurd h (by simp)
theorem RdS.fr {M : Nat → Prop} {w w' : World} {lo hi : Nat} {A : Option Addr} {ds : List De} (h : RdS w lo hi A ds) (hf : Fr M w w') (hh : hi ≤ w.heap.size) (hm : ∀ k, lo ≤ k → k < hi → ¬ M k) : RdS w' lo hi A ds := fun hl => by
  obtain ⟨b, o, h1, h2, h3, h4⟩ := h hl
  refine ⟨b, o, h1, h2, h3, fun i q hq => ?_⟩
  obtain ⟨pl, k1, k2⟩ := h4 i q hq
  exact ⟨pl, fun j v hv => (hf.cell (p := ⟨b, o + i * 16 + j, none⟩) (Nat.lt_of_lt_of_le h3 hh) (hm _ h2 h3)).trans (k1 j v hv), k2.fr hf hh hm⟩
theorem RdS.take {w : World} {lo hi : Nat} {A : Option Addr} {ds : List De} (n : Nat) (h : RdS w lo hi A ds) : RdS w lo hi A (ds.take n) := fun hl => by
  obtain ⟨b, o, h1, h2, h3, h4⟩ := h (by rw [List.length_take] at hl; omega)
  refine ⟨b, o, h1, h2, h3, fun i q hq => h4 i q ?_⟩
  rw [List.getElem?_take] at hq
  split at hq
  · exact hq
  · cases hq
/-- One of them, as cells. -/
theorem RdS.get {w : World} {lo hi b o : Nat} {ds : List De} (hh : hi ≤ w.heap.size) {i : Nat} {d : De} (h : ∃ pl : Pl, (∀ j v, (dcells d.1 pl d.2.length)[j]? = some v → w.cell? ⟨b, o + i * 16 + j, none⟩ = some v) ∧ RdD w lo hi d.1 pl d.2) (_ : ds[i]? = some d) : ∃ cs, IsD w cs d.1 d.2 ∧ cs.size = 16 ∧ ∀ j v, cs[j]? = some v → w.cell? ⟨b, o + i * 16 + j, none⟩ = some v := by
  obtain ⟨pl, h1, h2⟩ := h
  exact ⟨_, ⟨pl, lo, hi, rfl, hh, h2⟩, rfl, h1⟩

set_option maxRecDepth 8000 in
set_option maxHeartbeats 6400000 in
theorem samess_calls (A A' : Option Addr) (ds : List De) (c c' lo hi lo' hi' : Nat) (w : World) (h : RdS w lo hi A ds) (hh : hi ≤ w.heap.size) (h' : RdS w lo' hi' A' ds) (hh' : hi' ≤ w.heap.size) (hl : ds.length ≤ 140737488355328) (hok : ∀ d ∈ ds, Fine d.1 d.2) :
    Calls Tryd.prog 14 #[.slice A ds.length c, .slice A' ds.length c'] w fun e w' => e = .returned (.bool true) ∧ Fr NoB w w' := by
  have HR := Lib.hid h
  have HR2 := Lib.hid h'
  have HOK := Lib.hid hok
  clear h h' hok
  go_enter Tryd.func14, Tryd.ntmps14
  go_wp2
  go_loopw [5] (fun i W => ∃ k : Nat, k ≤ ds.length ∧ i = .int .i64 (k : Int) ∧ Fr NoB w W) (fun i _ => ds.length - (intOf i).toNat)
  case atStart => exact ⟨0, Nat.zero_le _, rfl, Fr.refl _ _⟩
  case round =>
    obtain ⟨k, hk, rfl, hf⟩ := hrel
    have F := Lib.hid hf
    clear hf
    by_cases hlt : k < ds.length
    · have hki : (k : Int) < (ds.length : Int) := by omega
      have hk0 : (0 : Int) ≤ (k : Int) := by omega
      obtain ⟨b, o, rfl, hb1, hb2, h4⟩ := HR.out (by omega)
      obtain ⟨b2, o2, rfl, hb3, hb4, h5⟩ := HR2.out (by omega)
      obtain ⟨cs, his, hc16, hcs⟩ := RdS.get hh (h4 k ds[k] (List.getElem?_eq_getElem hlt)) (List.getElem?_eq_getElem hlt)
      obtain ⟨cs2, his2, hd16, hcs2⟩ := RdS.get hh' (h5 k ds[k] (List.getElem?_eq_getElem hlt)) (List.getElem?_eq_getElem hlt)
      have hq := HOK.out ds[k] (List.getElem_mem hlt)
      clear h4 h5
      generalize ds[k] = d at his his2 hq
      obtain ⟨x0, x1, x2, x3, x4, x5, x6, x7, x8, x9, x10, x11, x12, x13, x14, x15, rfl⟩ := atoms hc16
      obtain ⟨y0, y1, y2, y3, y4, y5, y6, y7, y8, y9, y10, y11, y12, y13, y14, y15, rfl⟩ := atoms hd16
      have HSD := Lib.hid (fun W (G : Fr NoB wr W) => b_same (his.fr (F.out.then G)) (his2.fr (F.out.then G)) hq)
      have HRG : Hid (∀ W, Fr NoB wr W → W.cell? ⟨b, o + k * 16, none⟩ = some x0 ∧ W.cell? ⟨b, o + k * 16 + 1, none⟩ = some x1 ∧ W.cell? ⟨b, o + k * 16 + 2, none⟩ = some x2 ∧ W.cell? ⟨b, o + k * 16 + 3, none⟩ = some x3 ∧ W.cell? ⟨b, o + k * 16 + 4, none⟩ = some x4 ∧ W.cell? ⟨b, o + k * 16 + 5, none⟩ = some x5 ∧ W.cell? ⟨b, o + k * 16 + 6, none⟩ = some x6 ∧ W.cell? ⟨b, o + k * 16 + 7, none⟩ = some x7 ∧ W.cell? ⟨b, o + k * 16 + 8, none⟩ = some x8 ∧ W.cell? ⟨b, o + k * 16 + 9, none⟩ = some x9 ∧ W.cell? ⟨b, o + k * 16 + 10, none⟩ = some x10 ∧ W.cell? ⟨b, o + k * 16 + 11, none⟩ = some x11 ∧ W.cell? ⟨b, o + k * 16 + 12, none⟩ = some x12 ∧ W.cell? ⟨b, o + k * 16 + 13, none⟩ = some x13 ∧ W.cell? ⟨b, o + k * 16 + 14, none⟩ = some x14 ∧ W.cell? ⟨b, o + k * 16 + 15, none⟩ = some x15 ∧ W.cell? ⟨b2, o2 + k * 16, none⟩ = some y0 ∧ W.cell? ⟨b2, o2 + k * 16 + 1, none⟩ = some y1 ∧ W.cell? ⟨b2, o2 + k * 16 + 2, none⟩ = some y2 ∧ W.cell? ⟨b2, o2 + k * 16 + 3, none⟩ = some y3 ∧ W.cell? ⟨b2, o2 + k * 16 + 4, none⟩ = some y4 ∧ W.cell? ⟨b2, o2 + k * 16 + 5, none⟩ = some y5 ∧ W.cell? ⟨b2, o2 + k * 16 + 6, none⟩ = some y6 ∧ W.cell? ⟨b2, o2 + k * 16 + 7, none⟩ = some y7 ∧ W.cell? ⟨b2, o2 + k * 16 + 8, none⟩ = some y8 ∧ W.cell? ⟨b2, o2 + k * 16 + 9, none⟩ = some y9 ∧ W.cell? ⟨b2, o2 + k * 16 + 10, none⟩ = some y10 ∧ W.cell? ⟨b2, o2 + k * 16 + 11, none⟩ = some y11 ∧ W.cell? ⟨b2, o2 + k * 16 + 12, none⟩ = some y12 ∧ W.cell? ⟨b2, o2 + k * 16 + 13, none⟩ = some y13 ∧ W.cell? ⟨b2, o2 + k * 16 + 14, none⟩ = some y14 ∧ W.cell? ⟨b2, o2 + k * 16 + 15, none⟩ = some y15) := fun W G => by
        have HC : ∀ j v, #[x0, x1, x2, x3, x4, x5, x6, x7, x8, x9, x10, x11, x12, x13, x14, x15][j]? = some v → W.cell? ⟨b, o + k * 16 + j, none⟩ = some v := fun j v hv => ((F.out.then G).cell (p := ⟨b, o + k * 16 + j, none⟩) (by simp only; omega) (fun x => x)).trans (hcs j v hv)
        have HC2 : ∀ j v, #[y0, y1, y2, y3, y4, y5, y6, y7, y8, y9, y10, y11, y12, y13, y14, y15][j]? = some v → W.cell? ⟨b2, o2 + k * 16 + j, none⟩ = some v := fun j v hv => ((F.out.then G).cell (p := ⟨b2, o2 + k * 16 + j, none⟩) (by simp only; omega) (fun x => x)).trans (hcs2 j v hv)
        exact ⟨HC 0 _ rfl, HC 1 _ rfl, HC 2 _ rfl, HC 3 _ rfl, HC 4 _ rfl, HC 5 _ rfl, HC 6 _ rfl, HC 7 _ rfl, HC 8 _ rfl, HC 9 _ rfl, HC 10 _ rfl, HC 11 _ rfl, HC 12 _ rfl, HC 13 _ rfl, HC 14 _ rfl, HC 15 _ rfl, HC2 0 _ rfl, HC2 1 _ rfl, HC2 2 _ rfl, HC2 3 _ rfl, HC2 4 _ rfl, HC2 5 _ rfl, HC2 6 _ rfl, HC2 7 _ rfl, HC2 8 _ rfl, HC2 9 _ rfl, HC2 10 _ rfl, HC2 11 _ rfl, HC2 12 _ rfl, HC2 13 _ rfl, HC2 14 _ rfl, HC2 15 _ rfl⟩
      clear hcs hcs2 his his2 hq HR HR2 HOK hc16 hd16
      go_wp2
      go_region_held3 (fun W => W.cell? ⟨b, o + k * 16, none⟩ = some x0 ∧ W.cell? ⟨b, o + k * 16 + 1, none⟩ = some x1 ∧ W.cell? ⟨b, o + k * 16 + 2, none⟩ = some x2 ∧ W.cell? ⟨b, o + k * 16 + 3, none⟩ = some x3 ∧ W.cell? ⟨b, o + k * 16 + 4, none⟩ = some x4 ∧ W.cell? ⟨b, o + k * 16 + 5, none⟩ = some x5 ∧ W.cell? ⟨b, o + k * 16 + 6, none⟩ = some x6 ∧ W.cell? ⟨b, o + k * 16 + 7, none⟩ = some x7 ∧ W.cell? ⟨b, o + k * 16 + 8, none⟩ = some x8 ∧ W.cell? ⟨b, o + k * 16 + 9, none⟩ = some x9 ∧ W.cell? ⟨b, o + k * 16 + 10, none⟩ = some x10 ∧ W.cell? ⟨b, o + k * 16 + 11, none⟩ = some x11 ∧ W.cell? ⟨b, o + k * 16 + 12, none⟩ = some x12 ∧ W.cell? ⟨b, o + k * 16 + 13, none⟩ = some x13 ∧ W.cell? ⟨b, o + k * 16 + 14, none⟩ = some x14 ∧ W.cell? ⟨b, o + k * 16 + 15, none⟩ = some x15 ∧ W.cell? ⟨b2, o2 + k * 16, none⟩ = some y0 ∧ W.cell? ⟨b2, o2 + k * 16 + 1, none⟩ = some y1 ∧ W.cell? ⟨b2, o2 + k * 16 + 2, none⟩ = some y2 ∧ W.cell? ⟨b2, o2 + k * 16 + 3, none⟩ = some y3 ∧ W.cell? ⟨b2, o2 + k * 16 + 4, none⟩ = some y4 ∧ W.cell? ⟨b2, o2 + k * 16 + 5, none⟩ = some y5 ∧ W.cell? ⟨b2, o2 + k * 16 + 6, none⟩ = some y6 ∧ W.cell? ⟨b2, o2 + k * 16 + 7, none⟩ = some y7 ∧ W.cell? ⟨b2, o2 + k * 16 + 8, none⟩ = some y8 ∧ W.cell? ⟨b2, o2 + k * 16 + 9, none⟩ = some y9 ∧ W.cell? ⟨b2, o2 + k * 16 + 10, none⟩ = some y10 ∧ W.cell? ⟨b2, o2 + k * 16 + 11, none⟩ = some y11 ∧ W.cell? ⟨b2, o2 + k * 16 + 12, none⟩ = some y12 ∧ W.cell? ⟨b2, o2 + k * 16 + 13, none⟩ = some y13 ∧ W.cell? ⟨b2, o2 + k * 16 + 14, none⟩ = some y14 ∧ W.cell? ⟨b2, o2 + k * 16 + 15, none⟩ = some y15) (first
        | with_reducible exact HRG.out _ ((Fr.refl NoB wr).drew)
        | with_reducible exact HRG.out _ (((Fr.refl NoB wr).drew).then f2)) (first
        | ((with_reducible refine (HSD.out _ ((Fr.refl NoB wr).drew)).mono ?_); rintro e w2 ⟨rfl, f2⟩))
      all_goals
        go_wp2
        go_roundw
        case rel => exact ⟨k + 1, by omega, by go_num, (F.out.drew).then f2⟩
        case measure => simp [intOf]; omega
    · obtain rfl : k = ds.length := by omega
      clear HR HR2 HOK hlt hk
      go_wp2
      go_ret
      exact ⟨rfl, F.out⟩
end Go.Proofs.YtmlmbahimklfiaaDoor
