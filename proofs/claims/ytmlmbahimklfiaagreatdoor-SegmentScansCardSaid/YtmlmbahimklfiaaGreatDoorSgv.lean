/-
  Sgv: Sgt, Sgu, Sgv.
-/
import Derived.Test.YtmlmbahimklfiaaGreatDoorSge
import Derived.Test.YtmlmbahimklfiaaGreatDoorSgd
/- Sgt -/
namespace Go.Proofs.YtmlmbahimklfiaaGreatDoor
open Go.RowKit

/-- A small deed of a zxid. -/
def syncF (z : Int) : Fd := ⟨z, 6, 0, 0, 0, 0, [], [], 0, 0, 0, 0, 0, (0, [])⟩
def syncD (z : Int) : De := (syncF z, [])
/-- Zxids of such. -/
def ZOk (z : Int) : Prop := 1 ≤ z ∧ z ≤ 4611686018427387904
theorem syncD_ok {z : Int} (h : ZOk z) : RightD (syncD z) := by
  obtain ⟨h1, h2⟩ := h
  refine ⟨?_, ?_, fun q hq => absurd hq (by simp [syncD])⟩
  · refine ⟨h1, ⟨by show 0 ≤ z; omega, by show z / 4294967296 ≤ _; omega⟩, Int.le_refl _, Int.le_refl _, Int.le_refl _, Int.le_refl _, ?_, fun h => absurd h (by simp [syncD, syncF]), fun h => absurd h (by simp [syncD, syncF]), fun h => absurd h (by simp [syncD, syncF])⟩
    exact .inr (.inr (.inr (.inr (.inr (.inl ⟨rfl, rfl, rfl, rfl, rfl, rfl, rfl, rfl, rfl, rfl, rfl⟩)))))
  · refine ⟨by show _ ≤ z ∧ z ≤ _; omega, ?_, ?_, ?_, ?_, ?_, ?_, ?_, ?_, ?_, ?_, ?_, ?_, ?_, ?_⟩ <;> simp [syncD, syncF]
theorem syncD_fine {z : Int} (h : ZOk z) : Fine (syncF z) [] := ⟨(syncD_ok h).2.1, fun q hq => absurd hq (by simp), by simp⟩
theorem syncD_is (w : World) (z : Int) : IsD w (dcells (syncF z) pl0 0) (syncF z) [] := ⟨pl0, 0, 0, rfl, Nat.zero_le _, Rd.nil _ _ _ _, RdM.nil' _ _ _ _, RdP.nil _ _ _ _⟩
/-- Memory at A reads as these numbers. -/
def RdZ (w : World) (A : Option Addr) (l : List Int) : Prop := 0 < l.length → ∃ g o, A = some ⟨g, o, none⟩ ∧ g < w.heap.size ∧ ∀ i, i < l.length → w.cell? ⟨g, o + i, none⟩ = some (.int .i64 (l.getD i 0))
theorem RdZ.fr {w w' : World} {A : Option Addr} {l : List Int} (h : RdZ w A l) (f : Fr NoB w w') : RdZ w' A l := fun hl => by
  obtain ⟨g, o, e, h1, h2⟩ := h hl
  exact ⟨g, o, e, Nat.lt_of_lt_of_le h1 f.size, fun i hi => (f.cell (p := ⟨g, o + i, none⟩) h1 (fun x => x)).trans (h2 i hi)⟩
theorem RdZ.nil (w : World) (A : Option Addr) : RdZ w A [] := fun h => absurd h (by simp)
theorem RdZ.new (w : World) (l : List Int) (t : TypeId) : RdZ (w.alloc (.cells (l.map (Value.int .i64)).toArray t)) (some ⟨w.heap.size, 0, none⟩) l := fun hl => by
  refine ⟨_, 0, rfl, by simp, fun i hi => ?_⟩
  have h := Lib.cell_of_heap (heap_alloc_new w (.cells (l.map (Value.int .i64)).toArray t)) (0 + i)
  rw [h]
  simp [List.getD, hi]
theorem RdZ.own {w : World} {base n c : Nat} {A : Option Addr} {l : List Int} (h : w.ownsRow base 3 1 (.slice A n c) l.length (nvs l)) : RdZ w A l := fun hl => by
  obtain ⟨g, cap, hv, hb, hlt⟩ := h.form hl
  have hP : A = some ⟨g, 0, none⟩ := by injection hv
  refine ⟨g, 0, hP, hlt, fun i hi => ?_⟩
  have := h.cells (g := g) (by rw [hP]; rfl) i (.int .i64 (l.getD i 0)) (by simp [nvs, List.getD, hi])
  rwa [Lib.addr_add] at this

set_option maxHeartbeats 1000000 in
theorem sync_calls (z : Int) (w : World) :
    Calls Tryz.prog 45 #[.int .i64 z] w fun e w' => e = .returned (.agg (dcells (syncF z) pl0 0)) ∧ Fr NoB w w' := by
  go_enter Tryz.func45, Tryz.ntmps45
  go_wp2
  refine bodyPost_ret (v := .agg (dcells (syncF z) pl0 0)) (results_cell_row (fn := Tryz.f45) (p := 2) (ty := 31) (by kernel_rfl) _ _ w.heap.size 31 _ _ _ rfl (heap_alloc_new w _) Tryz.underlying31 rfl (by kernel_rfl)) rfl ?_
  exact ⟨rfl, (Fr.refl NoB w).alloc _⟩

theorem segB_snoc (l : List De) (d : De) : segB (l ++ [d]) = segB l ++ frameB (deB d) := by simp [segB]

set_option maxRecDepth 8000 in
set_option maxHeartbeats 3200000 in
theorem rows_calls (A : Option Addr) (l : List Int) (c : Nat) (w : World) (h : RdZ w A l) (hl : l.length ≤ 100) (hz : ∀ z ∈ l, ZOk z) (hH : Has w) :
    Calls Tryz.prog 23 #[.slice A l.length c] w fun e w' => ∃ v, e = .returned v ∧ w'.ownsRow w.heap.size 5 1 v (segB (l.map syncD)).length (bv (segB (l.map syncD))) ∧ Fr NoB w w' := by
  obtain ⟨i0, hi0, hz0, hz1, hz2⟩ := info_parts info_byte
  have HR := Lib.hid h
  have HZ := Lib.hid hz
  have HW := Lib.hid hH
  clear h hz hH
  go_enter Tryz.func23, Tryz.ntmps23
  go_wp2
  go_loopw [3, 4] (fun v i W => ∃ k : Nat, k ≤ l.length ∧ i = .int .i64 (k : Int) ∧ Fr NoB w W ∧ W.ownsRow w.heap.size 5 1 v (segB ((l.take k).map syncD)).length (bv (segB ((l.take k).map syncD))) ∧ (segB ((l.take k).map syncD)).length ≤ k * 700008) (fun _ i _ => l.length - (intOf i).toNat)
  case atStart => exact ⟨0, Nat.zero_le _, rfl, Fr.refl _ _, World.ownsRow_nil _ _ _ _, Nat.zero_le _⟩
  case round =>
    obtain ⟨k, hk, rfl, hf, hown, hlen⟩ := hrel
    have F := Lib.hid hf
    clear hf
    by_cases hlt : k < l.length
    · have hki : (k : Int) < (l.length : Int) := by omega
      have hk0 : (0 : Int) ≤ (k : Int) := by omega
      obtain ⟨g, o, rfl, -, hc⟩ := HR.out (by omega)
      have hck := (F.out.cell (p := ⟨g, o + k, none⟩) (by simp only; obtain ⟨g2, o2, e, hg, -⟩ := HR.out (by omega); cases e; exact hg) (fun x => x)).trans (hc k hlt)
      have hzk := HZ.out l[k] (List.getElem_mem hlt)
      have e1 : l.getD k 0 = l[k] := by simp [List.getD, hlt]
      rw [e1] at hck
      have hstep : segB ((l.take (k + 1)).map syncD) = segB ((l.take k).map syncD) ++ frameB (deB (syncD l[k])) := by
        rw [List.take_succ_eq_append_getElem hlt, List.map_append, List.map_cons, List.map_nil, segB_snoc]
      have HS := Lib.hid hstep
      clear hc e1 hstep
      generalize l[k] = z at hck hzk HS
      generalize (segB ((l.take k).map syncD)) = B at hown hlen HS
      have hput := fun W (G : Fr NoB wr W) => sput_calls (syncD_is W z) (by simp) (syncD_fine hzk).ok (syncD_fine hzk).wide (HW.out.fr (F.out.then G))
      rw [show putS (syncF z) [] = (frameB (deB (syncD z)), 0) from if_pos (syncD_ok hzk).1] at hput
      have hfl : (frameB (deB (syncD z))).length ≤ 700008 := by rw [frameB_len]; have := (syncD_ok hzk).len; omega
      generalize frameB (deB (syncD z)) = R at hput HS hfl
      have HP := Lib.hid hput
      clear hput hzk
      go_wp2_with (fail)
      refine (sync_calls z _).mono ?_
      rintro e w1 ⟨rfl, f1⟩
      have hown1 := own_keep hown (fun g hg => f1.block g (hown.lt g hg).2 (fun x => x))
      clear hown hck
      obtain ⟨cs, hcs⟩ : ∃ cs, dcells (syncF z) pl0 0 = cs := ⟨_, rfl⟩
      rw [hcs] at HP ⊢
      clear hcs
      go_wp2_with (fail)
      refine (HP.out _ f1).mono ?_
      rintro e w2 ⟨A2, c2, rfl, h1, h2, hr, f2⟩
      have hown2 := own_keep hown1 (fun g hg => f2.block g (hown1.lt g hg).2 (fun x => x))
      clear hown1
      go_wp2_with (at_builtin; refine wpList_append_src _ rfl _ _ 24 rfl w.heap.size 5 i0 (.int .u8 0) 1 1 Tryz.underlying24 hi0 hz0 hz1 hz2 rfl (by decide) _ B.length (bv B) rfl hown2 A2 R.length c2 (bv R) rfl (by simp) hr.srcs (bv_one R) (by unfold maxLen; omega) (by omega) (Nat.le_trans F.out.size (Nat.le_trans f1.size f2.size)) ?_)
      intro v' w3 hA
      have hA1 := hA.own
      have f3 := hA.fr
      clear hA
      go_wp2
      go_roundw
      case rel =>
        refine ⟨k + 1, by omega, by go_num, ?_, ?_, ?_⟩
        · exact ((F.out.then f1).then f2).upE f3 (fun g hg => (hown2.lt g hg).1)
        · rw [HS.out, List.length_append, bv_append]; exact hA1
        · rw [HS.out, List.length_append]; omega
      case measure => simp [intOf]; omega
    · obtain rfl : k = l.length := by omega
      rw [List.take_of_length_le (Nat.le_refl _)] at hown
      clear hlen hlt hk
      go_wp2
      go_ret
      exact ⟨_, rfl, hown, F.out⟩
end Go.Proofs.YtmlmbahimklfiaaGreatDoor

/- Sgu -/
namespace Go.Proofs.YtmlmbahimklfiaaGreatDoor
open Go.RowKit

set_option maxRecDepth 8000 in
set_option maxHeartbeats 3200000 in
theorem tells_not (A : Option Addr) (b : List UInt8) (c lo hi : Nat) (tt : Int) (v : Value) (w : World) (h : Rd w lo hi A b) (hh : hi ≤ w.heap.size) (hlc : b.length ≤ c) (hcm : c ≤ maxLen) (hb : b.length ≤ 1000000000) (hH : Has w) (hn : ((segB (scan b)).length : Int) ≠ tt) (hv : ∃ B n k, v = .slice B n k) :
    Calls Tryz.prog 24 #[.slice A b.length c, .int .i64 tt, v] w fun e w' => e = .returned (.bool false) ∧ Fr NoB w w' := by
  obtain ⟨B, n, k, rfl⟩ := hv
  have hsc := scan_calls A b c lo hi w h hh hlc hcm hb hH
  have hb1 : (((segB (scan b)).length : Int) != tt) = true := by rw [bne_iff_ne]; exact hn
  unfold Scanned at hsc
  generalize ((segB (scan b)).length : Int) = a at hsc hb1
  clear h hn hlc hcm hb hH
  go_enter Tryz.func24, Tryz.ntmps24
  go_wp2_with (fail)
  refine hsc.mono ?_
  rintro e w1 ⟨A1, c1, A2, c2, LL, rfl, -, -, f⟩
  generalize LL.length = n1
  generalize (scan b).length = n2
  go_wp2
  go_ret
  exact ⟨rfl, f⟩

set_option maxRecDepth 8000 in
set_option maxHeartbeats 6400000 in
theorem tells_calls (A : Option Addr) (b : List UInt8) (c lo hi : Nat) (tt : Int) (B : Option Addr) (l : List Int) (cl : Nat) (w : World) (h : Rd w lo hi A b) (hh : hi ≤ w.heap.size) (hZ : RdZ w B l) (hlc : b.length ≤ c) (hcm : c ≤ maxLen) (hb : b.length ≤ 1000000000) (hl : l.length ≤ 100) (hok : ∀ z ∈ l, ZOk z) (hs : scan b = l.map syncD) (ht : tt = ((segB (l.map syncD)).length : Int)) (hH : Has w) :
    Calls Tryz.prog 24 #[.slice A b.length c, .int .i64 tt, .slice B l.length cl] w fun e w' => e = .returned (.bool true) ∧ Fr NoB w w' := by
  have hsc := scan_calls A b c lo hi w h hh hlc hcm hb hH
  unfold Scanned at hsc
  rw [hs, ← ht] at hsc
  have hb1 : (tt != tt) = false := by simp
  have HZ := Lib.hid hZ
  have HOK := Lib.hid hok
  have HT := Lib.hid ht
  clear h hlc hcm hb hH hZ hok hs ht
  go_enter Tryz.func24, Tryz.ntmps24
  go_wp2_with (fail)
  refine hsc.mono ?_
  rintro e w1 ⟨A1, c1, A2, c2, LL, rfl, hLL, hD, f⟩
  have hlen : LL.length = l.length := by have := congrArg List.length hLL; simpa using this
  have hRD := hD.rd
  rw [hLL] at hRD
  rw [hlen, List.length_map]
  have hE : (endZ (l.map syncD)).length = l.length := by simp [endZ, endsOf_len]
  have hends := hD.ends
  rw [show (l.map syncD).length = (endZ (l.map syncD)).length by simp [endZ, endsOf_len]] at hends
  have HE := Lib.hid (RdZ.own hends)
  have HRD := Lib.hid hRD
  have HEL := Lib.hid hE
  clear hD hsc hLL hlen hRD hends hE
  go_wp2
  go_loopw [10] (fun i W => ∃ k : Nat, k ≤ l.length ∧ i = .int .i64 (k : Int) ∧ Fr NoB w1 W) (fun i _ => l.length - (intOf i).toNat)
  case atStart => exact ⟨0, Nat.zero_le _, rfl, Fr.refl _ _⟩
  case round =>
    obtain ⟨k, hk, rfl, hf⟩ := hrel
    have F := Lib.hid hf
    clear hf
    by_cases hlt : k < l.length
    · have hki : (k : Int) < (l.length : Int) := by omega
      have hk0 : (0 : Int) ≤ (k : Int) := by omega
      obtain ⟨g, o, rfl, hb1, hb2, h4⟩ := HRD.out (by simp; omega)
      obtain ⟨g2, o2, rfl, hg2, h5⟩ := HZ.out (by omega)
      have hkm : (l.map syncD)[k]? = some (syncD l[k]) := by simp [hlt]
      obtain ⟨cs, his, hc16, hcs⟩ := RdS.get (Nat.le_refl _) (h4 k _ hkm) hkm
      have hq := syncD_fine (HOK.out l[k] (List.getElem_mem hlt))
      have hc2 := h5 k hlt
      have e1 : l.getD k 0 = l[k] := by simp [List.getD, hlt]
      rw [e1] at hc2
      clear h4 h5 e1 hkm
      generalize l[k] = z at his hq hc2
      obtain ⟨x0, x1, x2, x3, x4, x5, x6, x7, x8, x9, x10, x11, x12, x13, x14, x15, rfl⟩ := atoms hc16
      obtain ⟨y, hy⟩ : ∃ y, dcells (syncF z) pl0 0 = y := ⟨_, rfl⟩
      have HSD := Lib.hid (fun W (G : Fr NoB wr W) => b_same (his.fr (F.out.then G)) (hy ▸ syncD_is W z) hq)
      have HSY := Lib.hid (hy ▸ sync_calls z)
      have HRG : Hid (∀ W, Fr NoB wr W → W.cell? ⟨g, o + k * 16, none⟩ = some x0 ∧ W.cell? ⟨g, o + k * 16 + 1, none⟩ = some x1 ∧ W.cell? ⟨g, o + k * 16 + 2, none⟩ = some x2 ∧ W.cell? ⟨g, o + k * 16 + 3, none⟩ = some x3 ∧ W.cell? ⟨g, o + k * 16 + 4, none⟩ = some x4 ∧ W.cell? ⟨g, o + k * 16 + 5, none⟩ = some x5 ∧ W.cell? ⟨g, o + k * 16 + 6, none⟩ = some x6 ∧ W.cell? ⟨g, o + k * 16 + 7, none⟩ = some x7 ∧ W.cell? ⟨g, o + k * 16 + 8, none⟩ = some x8 ∧ W.cell? ⟨g, o + k * 16 + 9, none⟩ = some x9 ∧ W.cell? ⟨g, o + k * 16 + 10, none⟩ = some x10 ∧ W.cell? ⟨g, o + k * 16 + 11, none⟩ = some x11 ∧ W.cell? ⟨g, o + k * 16 + 12, none⟩ = some x12 ∧ W.cell? ⟨g, o + k * 16 + 13, none⟩ = some x13 ∧ W.cell? ⟨g, o + k * 16 + 14, none⟩ = some x14 ∧ W.cell? ⟨g, o + k * 16 + 15, none⟩ = some x15 ∧ W.cell? ⟨g2, o2 + k, none⟩ = some (.int .i64 z)) := fun W G => by
        have HC : ∀ j v, #[x0, x1, x2, x3, x4, x5, x6, x7, x8, x9, x10, x11, x12, x13, x14, x15][j]? = some v → W.cell? ⟨g, o + k * 16 + j, none⟩ = some v := fun j v hv => ((F.out.then G).cell (p := ⟨g, o + k * 16 + j, none⟩) (by simp only; omega) (fun x => x)).trans (hcs j v hv)
        have HC2 := ((f.then (F.out.then G)).cell (p := ⟨g2, o2 + k, none⟩) (by simp only; omega) (fun x => x)).trans hc2
        exact ⟨HC 0 _ rfl, HC 1 _ rfl, HC 2 _ rfl, HC 3 _ rfl, HC 4 _ rfl, HC 5 _ rfl, HC 6 _ rfl, HC 7 _ rfl, HC 8 _ rfl, HC 9 _ rfl, HC 10 _ rfl, HC 11 _ rfl, HC 12 _ rfl, HC 13 _ rfl, HC 14 _ rfl, HC 15 _ rfl, HC2⟩
      clear hcs his hq HRD HZ HE HOK hc16 hc2 hy
      go_wp2
      go_region_held3 (fun W => W.cell? ⟨g, o + k * 16, none⟩ = some x0 ∧ W.cell? ⟨g, o + k * 16 + 1, none⟩ = some x1 ∧ W.cell? ⟨g, o + k * 16 + 2, none⟩ = some x2 ∧ W.cell? ⟨g, o + k * 16 + 3, none⟩ = some x3 ∧ W.cell? ⟨g, o + k * 16 + 4, none⟩ = some x4 ∧ W.cell? ⟨g, o + k * 16 + 5, none⟩ = some x5 ∧ W.cell? ⟨g, o + k * 16 + 6, none⟩ = some x6 ∧ W.cell? ⟨g, o + k * 16 + 7, none⟩ = some x7 ∧ W.cell? ⟨g, o + k * 16 + 8, none⟩ = some x8 ∧ W.cell? ⟨g, o + k * 16 + 9, none⟩ = some x9 ∧ W.cell? ⟨g, o + k * 16 + 10, none⟩ = some x10 ∧ W.cell? ⟨g, o + k * 16 + 11, none⟩ = some x11 ∧ W.cell? ⟨g, o + k * 16 + 12, none⟩ = some x12 ∧ W.cell? ⟨g, o + k * 16 + 13, none⟩ = some x13 ∧ W.cell? ⟨g, o + k * 16 + 14, none⟩ = some x14 ∧ W.cell? ⟨g, o + k * 16 + 15, none⟩ = some x15 ∧ W.cell? ⟨g2, o2 + k, none⟩ = some (.int .i64 z)) (first
        | with_reducible exact HRG.out _ ((Fr.refl NoB wr).drew)
        | with_reducible exact HRG.out _ (((Fr.refl NoB wr).drew).then f2)
        | with_reducible exact HRG.out _ ((((Fr.refl NoB wr).drew).then f2).then f3)) (first
        | ((with_reducible refine (HSY.out _).mono ?_); rintro e w2 ⟨rfl, f2⟩)
        | ((with_reducible refine (HSD.out _ (((Fr.refl NoB wr).drew).then f2)).mono ?_); rintro e w3 ⟨rfl, f3⟩))
      all_goals
        go_wp2
        go_roundw
        case rel => exact ⟨k + 1, by omega, by go_num, ((F.out.drew).then f2).then f3⟩
        case measure => simp [intOf]; omega
    · obtain rfl : k = l.length := by omega
      by_cases h0 : l.length = 0
      · have hz0 : ((l.length : Int) == 0) = true := by simp [h0]
        clear HRD HZ HE HOK hlt hk h0
        go_wp2
        go_ret
        exact ⟨rfl, f.then F.out⟩
      · have hz0 : ((l.length : Int) == 0) = false := by rw [beq_eq_false_iff_ne]; omega
        obtain ⟨g, o, rfl, hb1, hb2⟩ := HE.out (by rw [HEL.out]; omega)
        have hc := hb2 (l.length - 1) (by rw [HEL.out]; omega)
        have e1 : (endZ (l.map syncD)).getD (l.length - 1) 0 = tt := by
          rw [HT.out]
          have h1 := endsOf_get 0 (l.map syncD) (l.length - 1) (by simp; omega)
          rw [show l.length - 1 + 1 = l.length by omega, List.take_of_length_le (by simp), Nat.zero_add] at h1
          simp [endZ, List.getD, h1]
        rw [e1] at hc
        have hc2 := (F.out.cell (p := ⟨g, o + (l.length - 1), none⟩) hb1 (fun x => x)).trans hc
        obtain ⟨m, hm⟩ : ∃ m, l.length = m + 1 := ⟨l.length - 1, by omega⟩
        rw [hm, Nat.add_sub_cancel] at hc2
        rw [hm] at hz0 ⊢
        have hi0 : (0 : Int) ≤ (m : Int) := by omega
        have hi1 : (m : Int) < ((m + 1 : Nat) : Int) := by omega
        have hsub : wrap64 (((m + 1 : Nat) : Int) - 1) = (m : Int) := by unfold wrap64; omega
        have hsub2 : wrap64 (m : Int) = (m : Int) := by unfold wrap64; omega
        have hsub3 : wrap64 ((m : Int) + 1 - 1) = (m : Int) := by unfold wrap64; omega
        clear HRD HZ HE HOK hlt hk h0 e1 hc hb2 hm
        go_wp2
        go_ret
        exact ⟨rfl, f.then F.out⟩
end Go.Proofs.YtmlmbahimklfiaaGreatDoor

/- Sgv -/
namespace Go.Proofs.YtmlmbahimklfiaaGreatDoor
open Go.RowKit

theorem scan_stop {ds : List De} (hr : ∀ d ∈ ds, RightD d) (hi : Rise 0 ds) {r : List UInt8} (h : ∀ n, scanF n (lastZ 0 ds) r = []) : scan (segB ds ++ r) = ds := by
  have hc := segB_count ds
  unfold scan
  rw [show (segB ds ++ r).length + 1 = ds.length + ((segB ds ++ r).length + 1 - ds.length) by rw [List.length_append]; omega, scanF_front ds _ 0 r hr hi, h, List.append_nil]
theorem scan_segB {ds : List De} (hr : ∀ d ∈ ds, RightD d) (hi : Rise 0 ds) : scan (segB ds) = ds := by
  have := scan_stop hr hi (r := []) (fun n => scanF_none (by unfold unframe; rw [if_pos (by simp)]))
  rwa [List.append_nil] at this
/-- Behind deeds stands one that does not rise. -/
theorem scan_fall {ds : List De} (hr : ∀ d ∈ ds, RightD d) (hi : Rise 0 ds) (d : De) (hd : RightD d) (hz : d.1.z ≤ lastZ 0 ds) (es : List De) : scan (segB (ds ++ d :: es)) = ds := by
  rw [segB_append, segB_cons]
  exact scan_stop hr hi (fun n => scanF_le (unframe_front d hd _) hd.get hz)
theorem cut_scanF : ∀ (ds : List De) (m : Nat) (last : Int) (n : Nat), (∀ d ∈ ds, RightD d) → Rise last ds → kN ds n < m → scanF m last ((segB ds).take n) = ds.take (kN ds n)
  | [], m, last, n, _, _, _ => by
    simp only [segB, List.flatMap_nil, List.take_nil]
    exact scanF_none (by unfold unframe; rw [if_pos (by simp)])
  | d :: ds, 0, last, n, _, _, h => absurd h (by omega)
  | d :: ds, m + 1, last, n, hr, hi, hm => by
    have hd := hr d (by simp)
    have hl := hd.len
    have hp := segN_pos d
    rw [segB_cons]
    by_cases h : segN d ≤ n
    · have e : (frameB (deB d) ++ segB ds).take n = frameB (deB d) ++ (segB ds).take (n - segN d) := by
        rw [List.take_append, List.take_of_length_le (by exact h)]
        rfl
      have hk : kN (d :: ds) n = kN ds (n - segN d) + 1 := by
        show (if segN d ≤ n then kN ds (n - segN d) + 1 else 0) = _
        rw [if_pos h]
      rw [e, hk, scanF_one (unframe_front d hd _) hd.get (by have := hi.1; omega), List.drop_append_of_le_length (by rw [frameB_len]; omega), List.drop_of_length_le (by rw [frameB_len]; omega), List.nil_append, List.take_succ_cons]
      rw [cut_scanF ds m d.1.z (n - segN d) (fun x hx => hr x (by simp [hx])) hi.2 (by omega)]
    · have e : (frameB (deB d) ++ segB ds).take n = (frameB (deB d)).take n := List.take_append_of_le_length (by unfold segN at h; omega)
      have hk : kN (d :: ds) n = 0 := by
        show (if segN d ≤ n then kN ds (n - segN d) + 1 else 0) = _
        rw [if_neg h]
      rw [e, hk, List.take_zero]
      exact scanF_none (fcut_none (deB d) n (by omega) (by unfold segN at h; omega))
/-- A file that is cut off: just the deeds that are there whole. -/
theorem cut_scan {ds : List De} (hr : ∀ d ∈ ds, RightD d) (hi : Rise 0 ds) (n : Nat) : scan ((segB ds).take n) = ds.take (kN ds n) := by
  have hc := kN_n ds n
  have hc2 := kN_le ds n
  have hc3 := segB_count ds
  unfold scan
  refine cut_scanF ds _ 0 n hr hi ?_
  rw [List.length_take]
  omega

theorem tells_n {A : Option Addr} {b : List UInt8} {c lo hi n m : Nat} {tt : Int} {B : Option Addr} {l : List Int} {cl : Nat} {w : World} (h : Rd w lo hi A b) (hh : hi ≤ w.heap.size) (hZ : RdZ w B l) (hn : b.length = n) (hm : l.length = m) (hlc : n ≤ c) (hcm : c ≤ maxLen) (hb : n ≤ 1000000000) (hl : m ≤ 100) (hok : ∀ z ∈ l, ZOk z) (hs : scan b = l.map syncD) (ht : ((segB (l.map syncD)).length : Int) = tt) (hH : Has w) :
    Calls Tryz.prog 24 #[.slice A n c, .int .i64 tt, .slice B m cl] w fun e w' => e = .returned (.bool true) ∧ Fr NoB w w' := by
  subst hn hm ht
  exact tells_calls A b c lo hi _ B l cl w h hh hZ hlc hcm hb hl hok hs rfl hH
theorem rows_n {A : Option Addr} {l : List Int} {c m n : Nat} {w : World} (h : RdZ w A l) (hm : l.length = m) (hl : m ≤ 100) (hz : ∀ z ∈ l, ZOk z) (hn : (segB (l.map syncD)).length = n) (hH : Has w) :
    Calls Tryz.prog 23 #[.slice A m c] w fun e w' => ∃ A' c', e = .returned (.slice A' n c') ∧ n ≤ c' ∧ c' ≤ maxLen ∧ w'.ownsRow w.heap.size 5 1 (.slice A' n c') n (bv (segB (l.map syncD))) ∧ Rd w' w.heap.size w'.heap.size A' (segB (l.map syncD)) ∧ Fr NoB w w' := by
  subst hm hn
  refine (rows_calls A l c w h hl hz hH).mono ?_
  rintro e w' ⟨v, rfl, ho, f⟩
  obtain ⟨A', c', rfl, h1, h2⟩ := own_form ho
  exact ⟨A', c', rfl, h1, h2, ho, own_rd ho, f⟩
theorem z1 : ZOk 1 := by unfold ZOk; omega
theorem z2 : ZOk 2 := by unfold ZOk; omega
theorem len1 : (segB ([1].map syncD)).length = 14 := by decide
theorem len12 : (segB ([1, 2].map syncD)).length = 28 := by decide
theorem segN1 : segN (syncD 1) = 14 := by decide
theorem segN2 : segN (syncD 2) = 14 := by decide
theorem z12 : ∀ z ∈ ([1, 2] : List Int), ZOk z := by simp [z1, z2]
theorem r12 : ∀ d ∈ ([1, 2] : List Int).map syncD, RightD d := by
  intro d hd
  obtain ⟨z, hz, rfl⟩ := List.mem_map.1 hd
  exact syncD_ok (z12 z hz)
theorem up12 : Rise 0 (([1, 2] : List Int).map syncD) := by simp [Rise, syncD, syncF]
theorem scan12 : scan (segB (([1, 2] : List Int).map syncD)) = ([1, 2] : List Int).map syncD := scan_segB r12 up12
theorem scan27 : scan ((segB (([1, 2] : List Int).map syncD)).take 27) = ([1] : List Int).map syncD := by
  rw [cut_scan r12 up12]
  have : kN (([1, 2] : List Int).map syncD) 27 = 1 := by simp [kN, segN1, segN2]
  rw [this]
  rfl
theorem scan21 : scan (segB (([2, 1] : List Int).map syncD)) = ([2] : List Int).map syncD :=
  scan_fall (ds := [syncD 2]) (by simp [syncD_ok z2]) (by simp [Rise, syncD, syncF]) (syncD 1) (syncD_ok z1) (by simp [lastZ, syncD, syncF]) []
theorem scan_nil : scan [] = [] := by decide
theorem put_zero (w : World) (hH : Has w) : Calls Tryz.prog 7 #[.agg #[.int .i64 0, .int .u8 0, .int .i64 0, .int .i64 0, .int .i64 0, .int .i64 0, .string ⟨#[]⟩, .slice none 0 0, .int .i64 0, .int .i64 0, .int .i64 0, .int .i64 0, .int .i64 0, .int .i64 0, .slice none 0 0, .slice none 0 0]] w fun e w' => ∃ A c, e = .returned (.tuple #[.slice A 0 c, .int .i64 4]) ∧ Fr NoB w w' := by
  refine (sput_calls (zcs_is w) (by simp) Fine.bare.ok Fine.bare.wide hH).mono ?_
  rw [show putS (bareF 0) [] = ([], 4) from if_neg (fun h => absurd h.1 (by simp [bareF]))]
  rintro e w' ⟨A, c, rfl, -, -, -, f⟩
  exact ⟨A, c, rfl, f⟩

set_option maxRecDepth 8000 in
set_option maxHeartbeats 3200000 in
theorem awake_calls (w : World) (hH : Has w) :
    Calls Tryz.prog 6 #[] w fun e w' => e = .returned (.bool true) ∧ Fr NoB w w' := by
  have HW := Lib.hid hH
  clear hH
  go_enter Tryz.func6, Tryz.ntmps6
  go_wp2_with (fail)
  refine (rows_n (RdZ.new w [1, 2] _) rfl (by decide) z12 len12 (HW.out.fr ((Fr.refl NoB w).alloc _))).mono ?_
  rintro e w1 ⟨A1, c1, rfl, h1, h2, -, hr1, f1⟩
  have F1 := Lib.hid (((Fr.refl NoB w).alloc (.cells #[.int .i64 1, .int .i64 2] 22)).then f1)
  go_wp2_with (fail)
  refine (put_zero w1 (HW.out.fr F1.out)).mono ?_
  rintro e w2 ⟨A2, c2, rfl, f2⟩
  go_wp2_with (fail)
  refine (tells_n (hr1.fr (f2.then ((Fr.refl NoB w2).alloc _)) (Nat.le_refl _) (fun _ _ _ x => x)) (Nat.le_trans f2.size (by simp)) (RdZ.new w2 [1, 2] _) len12 rfl h1 h2 (by decide) (by decide) z12 scan12 (by rw [len12]; rfl) (HW.out.fr ((F1.out.then f2).then ((Fr.refl NoB w2).alloc _)))).mono ?_
  rintro e w3 ⟨rfl, f3⟩
  have F3 := Lib.hid (((F1.out.then f2).then ((Fr.refl NoB w2).alloc (.cells #[.int .i64 1, .int .i64 2] 22))).then f3)
  have hr3 := Lib.hid (hr1.fr ((f2.then ((Fr.refl NoB w2).alloc (.cells #[.int .i64 1, .int .i64 2] 22))).then f3) (Nat.le_refl _) (fun _ _ _ x => x))
  have hs1 := Lib.hid (Nat.le_trans f2.size (Nat.le_trans ((Fr.refl NoB w2).alloc (.cells #[.int .i64 1, .int .i64 2] 22)).size f3.size))
  clear hr1 f1 f2 f3
  have hi27 : (27 : Int) ≤ (c1 : Int) := by omega
  go_wp2_with (fail)
  refine (tells_n ((hr3.out.fr ((Fr.refl NoB w3).alloc _) hs1.out (fun _ _ _ x => x)).take (n := 27)) (Nat.le_trans hs1.out (by simp)) (RdZ.new w3 [1] _) (by rw [List.length_take, len12]; rfl) rfl (by omega) h2 (by decide) (by decide) (by simp [z1]) scan27 (by rw [len1]; rfl) (HW.out.fr (F3.out.then ((Fr.refl NoB w3).alloc _)))).mono ?_
  rintro e w4 ⟨rfl, f4⟩
  have F4 := Lib.hid ((F3.out.then ((Fr.refl NoB w3).alloc (.cells #[.int .i64 1] 22))).then f4)
  clear f4
  go_wp2_with (fail)
  refine (rows_n (RdZ.new w4 [2, 1] _) rfl (by decide) (by simp [z1, z2]) (by decide : (segB ([2, 1].map syncD)).length = 28) (HW.out.fr (F4.out.then ((Fr.refl NoB w4).alloc _)))).mono ?_
  rintro e w5 ⟨A5, c5, rfl, k1, k2, -, hr5, f5⟩
  have F5 := Lib.hid ((F4.out.then ((Fr.refl NoB w4).alloc (.cells #[.int .i64 2, .int .i64 1] 22))).then f5)
  have HR5 := Lib.hid hr5
  clear f5 hr5
  go_wp2_with (fail)
  refine (tells_n (HR5.out.fr ((Fr.refl NoB w5).alloc _) (Nat.le_refl _) (fun _ _ _ x => x)) (by simp) (RdZ.new w5 [2] _) (by decide) rfl k1 k2 (by decide) (by decide) (by simp [z2]) scan21 (by decide) (HW.out.fr (F5.out.then ((Fr.refl NoB w5).alloc _)))).mono ?_
  rintro e w6 ⟨rfl, f6⟩
  have F6 := Lib.hid ((F5.out.then ((Fr.refl NoB w5).alloc (.cells #[.int .i64 2] 22))).then f6)
  clear f6
  go_wp2_with (fail)
  refine (tells_n (Rd.nil w6 0 0 none) (Nat.zero_le _) (RdZ.nil w6 none) rfl rfl (Nat.le_refl _) (Nat.zero_le _) (by decide) (by decide) (by simp) scan_nil rfl (HW.out.fr F6.out)).mono ?_
  rintro e w7 ⟨rfl, f7⟩
  go_wp2
  go_ret
  exact ⟨rfl, F6.out.then f7⟩
end Go.Proofs.YtmlmbahimklfiaaGreatDoor
