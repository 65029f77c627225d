/-
  End: ensemble.Find and ensemble.Voter; SameEnsemble.
-/
import Derived.Test.YtbgpgaekckfjlaaDoorEnb
namespace Go.Proofs.YtbgpgaekckfjlaaDoor
open Go.RowKit

def findM (ms : List Mem) (id : Int) : Option Mem := ms.find? fun m => m.1 == id
def votM (ms : List Mem) (id : Int) : Bool := match findM ms id with
  | none => false
  | some m => m.2.1 == 1
theorem find_hit {ms : List Mem} {k : Nat} {m : Mem} {id : Int} (h : ms[k]? = some m) (hn : findM (ms.take k) id = none) (hm : m.1 = id) : findM ms id = some m := by
  have hk := List.getElem?_eq_some_iff.1 h
  unfold findM at *
  rw [← List.take_append_drop k ms, List.find?_append, hn, List.drop_eq_getElem_cons hk.1, hk.2]
  simp [hm]
theorem find_step {ms : List Mem} {k : Nat} {m : Mem} {id : Int} (h : ms[k]? = some m) (hn : findM (ms.take k) id = none) (hm : m.1 ≠ id) : findM (ms.take (k + 1)) id = none := by
  unfold findM at *
  rw [List.take_add_one, h, List.find?_append, hn]
  simp [hm]

set_option maxHeartbeats 1600000 in
theorem find1_calls (m0 m1 m2 m3 id : Int) (B : Nat) (w : World) (hB : B < w.heap.size) (hc : w.cell? ⟨B, 0, none⟩ = some (.int .i64 id)) :
    Calls Tryd.prog 39 #[.agg #[.int .i64 m0, .int .u8 m1, .int .i64 m2, .int .i64 m3], .pointer (some ⟨B, 0, none⟩)] w fun e w' => e = .returned (.bool (m0 == id)) ∧ Fr NoB w w' := by
  have hc2 : ∀ o, (w.alloc o).cell? ⟨B, 0, none⟩ = some (.int .i64 id) := fun o => (World.cell?_of_block (a := ⟨B, 0, none⟩) (Below.heap_alloc w o B hB)).trans hc
  clear hc
  go_enter Tryd.func39, Tryd.ntmps39
  go_wp2
  go_ret
  exact ⟨rfl, (Fr.refl NoB w).alloc _⟩

set_option maxHeartbeats 3200000 in
theorem indexf_calls (A : Option Addr) (ms : List Mem) (c lo hi : Nat) (id : Int) (B : Nat) (w : World) (h : RdM w lo hi A ms) (hh : hi ≤ w.heap.size) (hl : ms.length ≤ 140737488355328) (hB : B < w.heap.size) (hc : w.cell? ⟨B, 0, none⟩ = some (.int .i64 id)) :
    Calls Tryd.prog 38 #[.slice A ms.length c, .func (.func 39) #[] #[.pointer (some ⟨B, 0, none⟩)]] w fun e w' => ∃ z : Int, e = .returned (.int .i64 z) ∧ Fr NoB w w' ∧ ((z = -1 ∧ findM ms id = none) ∨ ∃ (k : Nat) (m : Mem), z = (k : Int) ∧ ms[k]? = some m ∧ findM ms id = some m) := by
  have hll : (ms.length : Int) ≤ 140737488355328 := by omega
  have HM := Lib.hid h
  clear h
  go_enter Tryd.func38, Tryd.ntmps38
  go_wp2
  go_loopw [8] (fun i wr => ∃ k : Nat, k ≤ ms.length ∧ i = .int .i64 (k : Int) ∧ findM (ms.take k) id = none ∧ Fr NoB w wr) (fun i _ => ms.length - (intOf i).toNat)
  case atStart => exact ⟨0, Nat.zero_le _, rfl, rfl, Fr.refl NoB w⟩
  case round =>
    obtain ⟨k, hk, rfl, hn, hf⟩ := hrel
    have FN := Lib.hid hn
    have FR := Lib.hid hf
    clear hn hf
    by_cases hlt : k < ms.length
    · obtain ⟨b, o, rfl, hb1, hb2, hcs⟩ := HM.out (by omega)
      obtain ⟨d0, d1, d2, d3⟩ := hcs k ms[k] (List.getElem?_eq_getElem hlt)
      have HG := Lib.hid (List.getElem?_eq_getElem hlt)
      clear hcs
      generalize ms[k] = m at d0 d1 d2 d3 HG
      obtain ⟨m0, m1, m2, m3⟩ := m
      simp only at d0 d1 d2 d3
      have e0 := (FR.out.cell (p := ⟨b, o + k * 4, none⟩) (by simp only; omega) (fun x => x)).trans d0
      have e1 := (FR.out.cell (p := ⟨b, o + k * 4 + 1, none⟩) (by simp only; omega) (fun x => x)).trans d1
      have e2 := (FR.out.cell (p := ⟨b, o + k * 4 + 2, none⟩) (by simp only; omega) (fun x => x)).trans d2
      have e3 := (FR.out.cell (p := ⟨b, o + k * 4 + 3, none⟩) (by simp only; omega) (fun x => x)).trans d3
      have hcB := (FR.out.cell (p := ⟨B, 0, none⟩) hB (fun x => x)).trans hc
      have HF := Lib.hid (find1_calls m0 m1 m2 m3 id B wr (Nat.lt_of_lt_of_le hB FR.out.size) hcB)
      have hi2 : (k : Int) < (ms.length : Int) := by omega
      clear d0 d1 d2 d3 hcB
      go_wp2_with (fail)
      refine HF.out.mono ?_
      rintro e w2 ⟨rfl, f2⟩
      have F2 := Lib.hid f2
      clear f2 e0 e1 e2 e3 HF
      by_cases hm : m0 = id
      · have hbq : (m0 == id) = true := by simp [hm]
        have HIT := Lib.hid (find_hit HG.out FN.out hm)
        clear hm
        go_wp2
        go_ret
        exact ⟨k, rfl, FR.out.then F2.out, .inr ⟨k, _, rfl, HG.out, HIT.out⟩⟩
      · have hbq : (m0 == id) = false := by simp [hm]
        have STP := Lib.hid (find_step HG.out FN.out hm)
        clear hm
        go_wp2
        go_roundw
        case rel => exact ⟨k + 1, by omega, by go_num, STP.out, FR.out.then F2.out⟩
        case measure => simp [intOf]; omega
    · obtain rfl : k = ms.length := by omega
      have hn := FN.out
      rw [List.take_length] at hn
      have HN := Lib.hid hn
      clear hn FN HM hlt hk
      go_wp2
      go_ret
      exact ⟨-1, rfl, FR.out, .inl ⟨rfl, HN.out⟩⟩

theorem alloc_st (w : World) (o : Obj) (n : Nat) (hn : w.heap.size = n) : (w.alloc o).heap.size = n + 1 ∧ (w.alloc o).heap[n]? = some o ∧ ∀ (k : Nat) (v : Obj), w.heap[k]? = some v → (w.alloc o).heap[k]? = some v := by
  subst hn
  exact ⟨by simp, heap_alloc_new w o, fun k v h => (Below.heap_alloc w o k (Lib.lt_of_heap h)).trans h⟩
/-- A member's four values, or four zeros. -/
def memOr (o : Option Mem) : Value := match o with
  | none => .agg #[.int .i64 0, .int .u8 0, .int .i64 0, .int .i64 0]
  | some m => .agg #[.int .i64 m.1, .int .u8 m.2.1, .int .i64 m.2.2.1, .int .i64 m.2.2.2]

theorem results_row_tmp {P : Program} {fn : Func} {p u : Tmp} {ty : TypeId} (h : fn.results = #[.cell p ty, .tmp u]) (tmps : Array Value) (w : World) (g : Nat) (t : TypeId) (cs : Array Value) (fr : Nat × Nat) (d : TypeDesc)
    (hp : tmps.getD p undef = .pointer (some ⟨g, 0, none⟩)) (hg : w.heap[g]? = some (.cells cs t fr))
    (hu : P.underlying ty = some d) (hd : (match d with | .struct _ | .array _ _ => true | _ => false) = true) (hi : (P.info? ty).map (·.size) = some cs.size) :
    (results fn tmps).run P w = .ok (.tuple #[.agg cs, tmps.getD u undef]) w := by
  rw [results_cell_tmp h, hp]
  simp [asAddr, run_loadVar_row w g t ty cs fr d hg hu hd hi]
theorem four_set {w : World} {N : Nat} {t : TypeId} {x0 x1 x2 x3 : Value} (h : w.heap[N]? = some (.cells #[.int .i64 0, .int .u8 0, .int .i64 0, .int .i64 0] t (0, 0))) :
    ((((w.setCell ⟨N, 0, none⟩ x0).setCell ⟨N, 1, none⟩ x1).setCell ⟨N, 2, none⟩ x2).setCell ⟨N, 3, none⟩ x3).heap[N]? = some (.cells #[x0, x1, x2, x3] t (0, 0)) := by
  rw [heap_set (heap_set (heap_set (heap_set h x0) x1) x2) x3]
  rfl
theorem four_fr {w0 w : World} (h : Fr NoB w0 w) (N : Nat) (hN : w0.heap.size ≤ N) (x0 x1 x2 x3 : Value) : Fr NoB w0 ((((w.setCell ⟨N, 0, none⟩ x0).setCell ⟨N, 1, none⟩ x1).setCell ⟨N, 2, none⟩ x2).setCell ⟨N, 3, none⟩ x3) :=
  (((h.setCell (p := ⟨N, 0, none⟩) (fun k => absurd k (by simp only; omega)) _).setCell (p := ⟨N, 1, none⟩) (fun k => absurd k (by simp only; omega)) _).setCell (p := ⟨N, 2, none⟩) (fun k => absurd k (by simp only; omega)) _).setCell (p := ⟨N, 3, none⟩) (fun k => absurd k (by simp only; omega)) _

set_option maxRecDepth 4000 in
set_option maxHeartbeats 3200000 in
theorem find_calls (v : Int) (A : Option Addr) (ms : List Mem) (c lo hi : Nat) (id : Int) (w : World) (h : RdM w lo hi A ms) (hh : hi ≤ w.heap.size) (hl : ms.length ≤ 140737488355328) :
    Calls Tryd.prog 11 #[.agg #[.int .i64 v, .slice A ms.length c], .int .i64 id] w fun e w' => e = .returned (.tuple #[memOr (findM ms id), .bool (findM ms id).isSome]) ∧ Fr NoB w w' := by
  have hmf : ∀ (fn : Fn) (first cap : Array Value) (w : World), (Instr.makeFunc fn first cap).run Tryd.prog w = .ok (.func fn first cap) w := fun _ _ _ _ => rfl
  have HX := Lib.hid (fun W B (f : Fr NoB w W) hB hc => indexf_calls A ms c lo hi id B W (h.fr f hh (fun _ _ _ x => x)) (Nat.le_trans hh f.size) hl hB hc)
  have HM := Lib.hid h
  clear h
  go_enter Tryd.func11, Tryd.ntmps11
  go_wp2_with (fail)
  have F3 := (((Fr.refl NoB w).alloc (.cells #[.int .i64 v, .slice A ms.length c] 25)).alloc (.cells #[.int .i64 id] 3)).alloc (.cells #[.int .i64 0, .int .u8 0, .int .i64 0, .int .i64 0] 30)
  obtain ⟨s0, a0, k0⟩ := alloc_st w (.cells #[.int .i64 v, .slice A ms.length c] 25) _ rfl
  obtain ⟨s1, a1, k1⟩ := alloc_st (w.alloc (.cells #[.int .i64 v, .slice A ms.length c] 25)) (.cells #[.int .i64 id] 3) _ s0
  obtain ⟨s2, a2, k2⟩ := alloc_st ((w.alloc (.cells #[.int .i64 v, .slice A ms.length c] 25)).alloc (.cells #[.int .i64 id] 3)) (.cells #[.int .i64 0, .int .u8 0, .int .i64 0, .int .i64 0] 30) _ s1
  have h0 := k2 _ _ (k1 _ _ a0)
  have h1 := k2 _ _ a1
  clear k0 k1 k2 a0 a1 s0 s1
  generalize ((w.alloc (.cells #[.int .i64 v, .slice A ms.length c] 25)).alloc (.cells #[.int .i64 id] 3)).alloc (.cells #[.int .i64 0, .int .u8 0, .int .i64 0, .int .i64 0] 30) = W3 at F3 h0 h1 s2 a2 ⊢
  refine (HX.out W3 _ F3 (Lib.lt_of_heap h1) (Lib.cell_of_heap h1 0)).mono ?_
  rintro e w4 ⟨z, rfl, f4, hz⟩
  have hb := f4.at_ h0 (fun x => x)
  have hr := f4.at_ a2 (fun x => x)
  have b1 := (cells_of hb 1).1
  have r0 := (cells_of hr 0).1
  have r1 := (cells_of hr 1).1
  have r2 := (cells_of hr 2).1
  have r3 := (cells_of hr 3).1
  have q0 := (cells_of hr 0).2
  have q1 := (cells_of hr 1).2
  have q2 := (cells_of hr 2).2
  have q3 := (cells_of hr 3).2
  simp only [List.getElem?_toArray, List.getElem?_cons_zero, List.getElem?_cons_succ] at b1 r0 r1 r2 r3
  have F4 := Lib.hid (F3.then f4)
  have HR := Lib.hid hr
  clear HX F3 h0 h1 s2 a2 f4 hb hr
  rcases hz with ⟨rfl, hn⟩ | ⟨k, m, rfl, hk, hm⟩
  · have HN := Lib.hid hn
    clear hn
    go_wp2
    refine bodyPost_ret (v := .tuple #[.agg #[.int .i64 0, .int .u8 0, .int .i64 0, .int .i64 0], .bool false]) (results_row_tmp (fn := Tryd.f11) (p := 4) (u := 5) (ty := 30) (by kernel_rfl) _ _ (w.heap.size + 1 + 1) 30 _ _ _ rfl (four_set HR.out) Tryd.underlying30 rfl (by kernel_rfl)) rfl ⟨by rw [HN.out]; rfl, four_fr F4.out _ (by omega) _ _ _ _⟩
  · have HN := Lib.hid hm
    have hkl := (List.getElem?_eq_some_iff.1 hk).1
    obtain ⟨b, o, rfl, hb1, hb2, hcs⟩ := HM.out (by omega)
    obtain ⟨d0, d1, d2, d3⟩ := hcs k m hk
    obtain ⟨m0, m1, m2, m3⟩ := m
    simp only at d0 d1 d2 d3
    have e0 := (F4.out.cell (p := ⟨b, o + k * 4, none⟩) (by simp only; omega) (fun x => x)).trans d0
    have e1 := (F4.out.cell (p := ⟨b, o + k * 4 + 1, none⟩) (by simp only; omega) (fun x => x)).trans d1
    have e2 := (F4.out.cell (p := ⟨b, o + k * 4 + 2, none⟩) (by simp only; omega) (fun x => x)).trans d2
    have e3 := (F4.out.cell (p := ⟨b, o + k * 4 + 3, none⟩) (by simp only; omega) (fun x => x)).trans d3
    have hi2 : (k : Int) < (ms.length : Int) := by omega
    clear d0 d1 d2 d3 hcs hk hm
    go_wp2
    refine bodyPost_ret (v := .tuple #[.agg #[.int .i64 m0, .int .u8 m1, .int .i64 m2, .int .i64 m3], .bool true]) (results_row_tmp (fn := Tryd.f11) (p := 4) (u := 5) (ty := 30) (by kernel_rfl) _ _ (w.heap.size + 1 + 1) 30 _ _ _ rfl (four_set HR.out) Tryd.underlying30 rfl (by kernel_rfl)) rfl ⟨by rw [HN.out]; rfl, four_fr F4.out _ (by omega) _ _ _ _⟩

set_option maxRecDepth 4000 in
set_option maxHeartbeats 3200000 in
theorem voter_calls (v : Int) (A : Option Addr) (ms : List Mem) (c lo hi : Nat) (id : Int) (w : World) (h : RdM w lo hi A ms) (hh : hi ≤ w.heap.size) (hl : ms.length ≤ 140737488355328) :
    Calls Tryd.prog 15 #[.agg #[.int .i64 v, .slice A ms.length c], .int .i64 id] w fun e w' => e = .returned (.bool (votM ms id)) ∧ Fr NoB w w' := by
  have HX := Lib.hid (fun W (f : Fr NoB w W) => find_calls v A ms c lo hi id W (h.fr f hh (fun _ _ _ x => x)) (Nat.le_trans hh f.size) hl)
  clear h
  have hv : votM ms id = match findM ms id with | none => false | some m => m.2.1 == 1 := rfl
  have HV := Lib.hid hv
  clear hv
  go_enter Tryd.func15, Tryd.ntmps15
  go_wp2_with (fail)
  refine (HX.out _ ((Fr.refl NoB w).alloc _)).mono ?_
  rintro e w1 ⟨rfl, f1⟩
  have F1 := Lib.hid (((Fr.refl NoB w).alloc _).then f1)
  clear f1 HX
  have hv := HV.out
  cases hf : findM ms id with
  | none =>
    rw [hf] at hv
    have HV := Lib.hid hv
    simp only [memOr, Option.isSome_none]
    clear hv hf
    go_wp2
    go_ret
    exact ⟨by rw [HV.out]; rfl, F1.out.alloc _⟩
  | some m =>
    rw [hf] at hv
    obtain ⟨m0, m1, m2, m3⟩ := m
    have HV := Lib.hid hv
    simp only [memOr, Option.isSome_some]
    clear hv hf
    go_wp2
    go_ret
    exact ⟨by rw [HV.out]; rfl, F1.out.alloc _⟩

end Go.Proofs.YtbgpgaekckfjlaaDoor
