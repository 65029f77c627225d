/-
  Sgu: what is told of bytes: these zxids, or another length.
-/
import Derived.Test.YtmlmbahimklfiaaDoorSgt
namespace Go.Proofs.YtmlmbahimklfiaaDoor
open Go.RowKit

set_option maxRecDepth 8000 in
set_option maxHeartbeats 3200000 in
theorem tells_not (A : Option Addr) (b : List UInt8) (c lo hi : Nat) (tt : Int) (v : Value) (w : World) (h : Rd w lo hi A b) (hh : hi ≤ w.heap.size) (hlc : b.length ≤ c) (hcm : c ≤ maxLen) (hb : b.length ≤ 1000000000) (hH : Has w) (hn : ((segB (scan b)).length : Int) ≠ tt) (hv : ∃ B n k, v = .slice B n k) :
    Calls Tryd.prog 7 #[.slice A b.length c, .int .i64 tt, v] w fun e w' => e = .returned (.bool false) ∧ Fr NoB w w' := by
  obtain ⟨B, n, k, rfl⟩ := hv
  have hsc := scan_calls A b c lo hi w h hh hlc hcm hb hH
  have hb1 : (((segB (scan b)).length : Int) != tt) = true := by rw [bne_iff_ne]; exact hn
  unfold Scanned at hsc
  generalize ((segB (scan b)).length : Int) = a at hsc hb1
  clear h hn hlc hcm hb hH
  go_enter Tryd.func7, Tryd.ntmps7
  go_wp2_with (fail)
  refine hsc.mono ?_
  rintro e w1 ⟨A1, c1, A2, c2, LL, rfl, -, -, f⟩
  generalize LL.length = n1
  generalize (scan b).length = n2
  go_wp2
  go_ret
  exact ⟨rfl, f⟩

set_option maxRecDepth 8000 in
set_option maxHeartbeats 6400000 in
theorem tells_calls (A : Option Addr) (b : List UInt8) (c lo hi : Nat) (tt : Int) (B : Option Addr) (l : List Int) (cl : Nat) (w : World) (h : Rd w lo hi A b) (hh : hi ≤ w.heap.size) (hZ : RdZ w B l) (hlc : b.length ≤ c) (hcm : c ≤ maxLen) (hb : b.length ≤ 1000000000) (hl : l.length ≤ 100) (hok : ∀ z ∈ l, ZOk z) (hs : scan b = l.map syncD) (ht : tt = ((segB (l.map syncD)).length : Int)) (hH : Has w) :
    Calls Tryd.prog 7 #[.slice A b.length c, .int .i64 tt, .slice B l.length cl] w fun e w' => e = .returned (.bool true) ∧ Fr NoB w w' := by
  have hsc := scan_calls A b c lo hi w h hh hlc hcm hb hH
  unfold Scanned at hsc
  rw [hs, ← ht] at hsc
  have hb1 : (tt != tt) = false := by simp
  have HZ := Lib.hid hZ
  have HOK := Lib.hid hok
  have HT := Lib.hid ht
  clear h hlc hcm hb hH hZ hok hs ht
  go_enter Tryd.func7, Tryd.ntmps7
  go_wp2_with (fail)
  refine hsc.mono ?_
  rintro e w1 ⟨A1, c1, A2, c2, LL, rfl, hLL, hD, f⟩
  have hlen : LL.length = l.length := by have := congrArg List.length hLL; simpa using this
  have hRD := hD.rd
  rw [hLL] at hRD
  rw [hlen, List.length_map]
  have hE : (endZ (l.map syncD)).length = l.length := by simp [endZ, endsOf_len]
  have hends := hD.ends
  rw [show (l.map syncD).length = (endZ (l.map syncD)).length by simp [endZ, endsOf_len]] at hends
  have HE := Lib.hid (RdZ.own hends)
  have HRD := Lib.hid hRD
  have HEL := Lib.hid hE
  clear hD hsc hLL hlen hRD hends hE
  go_wp2
  go_loopw [10] (fun i W => ∃ k : Nat, k ≤ l.length ∧ i = .int .i64 (k : Int) ∧ Fr NoB w1 W) (fun i _ => l.length - (intOf i).toNat)
  case atStart => exact ⟨0, Nat.zero_le _, rfl, Fr.refl _ _⟩
  case round =>
    obtain ⟨k, hk, rfl, hf⟩ := hrel
    have F := Lib.hid hf
    clear hf
    by_cases hlt : k < l.length
    · have hki : (k : Int) < (l.length : Int) := by omega
      have hk0 : (0 : Int) ≤ (k : Int) := by omega
      obtain ⟨g, o, rfl, hb1, hb2, h4⟩ := HRD.out (by simp; omega)
      obtain ⟨g2, o2, rfl, hg2, h5⟩ := HZ.out (by omega)
      have hkm : (l.map syncD)[k]? = some (syncD l[k]) := by simp [hlt]
      obtain ⟨cs, his, hc16, hcs⟩ := RdS.get (Nat.le_refl _) (h4 k _ hkm) hkm
      have hq := syncD_fine (HOK.out l[k] (List.getElem_mem hlt))
      have hc2 := h5 k hlt
      have e1 : l.getD k 0 = l[k] := by simp [List.getD, hlt]
      rw [e1] at hc2
      clear h4 h5 e1 hkm
      generalize l[k] = z at his hq hc2
      obtain ⟨x0, x1, x2, x3, x4, x5, x6, x7, x8, x9, x10, x11, x12, x13, x14, x15, rfl⟩ := atoms hc16
      obtain ⟨y, hy⟩ : ∃ y, dcells (syncF z) pl0 0 = y := ⟨_, rfl⟩
      have HSD := Lib.hid (fun W (G : Fr NoB wr W) => b_same (his.fr (F.out.then G)) (hy ▸ syncD_is W z) hq)
      have HSY := Lib.hid (hy ▸ sync_calls z)
      have HRG : Hid (∀ W, Fr NoB wr W → W.cell? ⟨g, o + k * 16, none⟩ = some x0 ∧ W.cell? ⟨g, o + k * 16 + 1, none⟩ = some x1 ∧ W.cell? ⟨g, o + k * 16 + 2, none⟩ = some x2 ∧ W.cell? ⟨g, o + k * 16 + 3, none⟩ = some x3 ∧ W.cell? ⟨g, o + k * 16 + 4, none⟩ = some x4 ∧ W.cell? ⟨g, o + k * 16 + 5, none⟩ = some x5 ∧ W.cell? ⟨g, o + k * 16 + 6, none⟩ = some x6 ∧ W.cell? ⟨g, o + k * 16 + 7, none⟩ = some x7 ∧ W.cell? ⟨g, o + k * 16 + 8, none⟩ = some x8 ∧ W.cell? ⟨g, o + k * 16 + 9, none⟩ = some x9 ∧ W.cell? ⟨g, o + k * 16 + 10, none⟩ = some x10 ∧ W.cell? ⟨g, o + k * 16 + 11, none⟩ = some x11 ∧ W.cell? ⟨g, o + k * 16 + 12, none⟩ = some x12 ∧ W.cell? ⟨g, o + k * 16 + 13, none⟩ = some x13 ∧ W.cell? ⟨g, o + k * 16 + 14, none⟩ = some x14 ∧ W.cell? ⟨g, o + k * 16 + 15, none⟩ = some x15 ∧ W.cell? ⟨g2, o2 + k, none⟩ = some (.int .i64 z)) := fun W G => by
        have HC : ∀ j v, #[x0, x1, x2, x3, x4, x5, x6, x7, x8, x9, x10, x11, x12, x13, x14, x15][j]? = some v → W.cell? ⟨g, o + k * 16 + j, none⟩ = some v := fun j v hv => ((F.out.then G).cell (p := ⟨g, o + k * 16 + j, none⟩) (by simp only; omega) (fun x => x)).trans (hcs j v hv)
        have HC2 := ((f.then (F.out.then G)).cell (p := ⟨g2, o2 + k, none⟩) (by simp only; omega) (fun x => x)).trans hc2
        exact ⟨HC 0 _ rfl, HC 1 _ rfl, HC 2 _ rfl, HC 3 _ rfl, HC 4 _ rfl, HC 5 _ rfl, HC 6 _ rfl, HC 7 _ rfl, HC 8 _ rfl, HC 9 _ rfl, HC 10 _ rfl, HC 11 _ rfl, HC 12 _ rfl, HC 13 _ rfl, HC 14 _ rfl, HC 15 _ rfl, HC2⟩
      clear hcs his hq HRD HZ HE HOK hc16 hc2 hy
      go_wp2
      go_region_held3 (fun W => W.cell? ⟨g, o + k * 16, none⟩ = some x0 ∧ W.cell? ⟨g, o + k * 16 + 1, none⟩ = some x1 ∧ W.cell? ⟨g, o + k * 16 + 2, none⟩ = some x2 ∧ W.cell? ⟨g, o + k * 16 + 3, none⟩ = some x3 ∧ W.cell? ⟨g, o + k * 16 + 4, none⟩ = some x4 ∧ W.cell? ⟨g, o + k * 16 + 5, none⟩ = some x5 ∧ W.cell? ⟨g, o + k * 16 + 6, none⟩ = some x6 ∧ W.cell? ⟨g, o + k * 16 + 7, none⟩ = some x7 ∧ W.cell? ⟨g, o + k * 16 + 8, none⟩ = some x8 ∧ W.cell? ⟨g, o + k * 16 + 9, none⟩ = some x9 ∧ W.cell? ⟨g, o + k * 16 + 10, none⟩ = some x10 ∧ W.cell? ⟨g, o + k * 16 + 11, none⟩ = some x11 ∧ W.cell? ⟨g, o + k * 16 + 12, none⟩ = some x12 ∧ W.cell? ⟨g, o + k * 16 + 13, none⟩ = some x13 ∧ W.cell? ⟨g, o + k * 16 + 14, none⟩ = some x14 ∧ W.cell? ⟨g, o + k * 16 + 15, none⟩ = some x15 ∧ W.cell? ⟨g2, o2 + k, none⟩ = some (.int .i64 z)) (first
        | with_reducible exact HRG.out _ ((Fr.refl NoB wr).drew)
        | with_reducible exact HRG.out _ (((Fr.refl NoB wr).drew).then f2)
        | with_reducible exact HRG.out _ ((((Fr.refl NoB wr).drew).then f2).then f3)) (first
        | ((with_reducible refine (HSY.out _).mono ?_); rintro e w2 ⟨rfl, f2⟩)
        | ((with_reducible refine (HSD.out _ (((Fr.refl NoB wr).drew).then f2)).mono ?_); rintro e w3 ⟨rfl, f3⟩))
      all_goals
        go_wp2
        go_roundw
        case rel => exact ⟨k + 1, by omega, by go_num, ((F.out.drew).then f2).then f3⟩
        case measure => simp [intOf]; omega
    · obtain rfl : k = l.length := by omega
      by_cases h0 : l.length = 0
      · have hz0 : ((l.length : Int) == 0) = true := by simp [h0]
        clear HRD HZ HE HOK hlt hk h0
        go_wp2
        go_ret
        exact ⟨rfl, f.then F.out⟩
      · have hz0 : ((l.length : Int) == 0) = false := by rw [beq_eq_false_iff_ne]; omega
        obtain ⟨g, o, rfl, hb1, hb2⟩ := HE.out (by rw [HEL.out]; omega)
        have hc := hb2 (l.length - 1) (by rw [HEL.out]; omega)
        have e1 : (endZ (l.map syncD)).getD (l.length - 1) 0 = tt := by
          rw [HT.out]
          have h1 := endsOf_get 0 (l.map syncD) (l.length - 1) (by simp; omega)
          rw [show l.length - 1 + 1 = l.length by omega, List.take_of_length_le (by simp), Nat.zero_add] at h1
          simp [endZ, List.getD, h1]
        rw [e1] at hc
        have hc2 := (F.out.cell (p := ⟨g, o + (l.length - 1), none⟩) hb1 (fun x => x)).trans hc
        obtain ⟨m, hm⟩ : ∃ m, l.length = m + 1 := ⟨l.length - 1, by omega⟩
        rw [hm, Nat.add_sub_cancel] at hc2
        rw [hm] at hz0 ⊢
        have hi0 : (0 : Int) ≤ (m : Int) := by omega
        have hi1 : (m : Int) < ((m + 1 : Nat) : Int) := by omega
        have hsub : wrap64 (((m + 1 : Nat) : Int) - 1) = (m : Int) := by unfold wrap64; omega
        have hsub2 : wrap64 (m : Int) = (m : Int) := by unfold wrap64; omega
        have hsub3 : wrap64 ((m : Int) + 1 - 1) = (m : Int) := by unfold wrap64; omega
        clear HRD HZ HE HOK hlt hk h0 e1 hc hb2 hm
        go_wp2
        go_ret
        exact ⟨rfl, f.then F.out⟩
end Go.Proofs.YtmlmbahimklfiaaDoor
