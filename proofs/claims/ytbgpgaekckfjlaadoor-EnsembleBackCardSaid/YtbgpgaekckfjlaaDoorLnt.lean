/-
  Lnt: lists that are lent: LentMembers; what lies behind them.
-/
import Derived.Test.YtbgpgaekckfjlaaDoorEnj
import Derived.Laws.MakeOwn
namespace Go.Proofs.YtbgpgaekckfjlaaDoor
open Go.RowKit

/-- The mark of place i behind a list that is lent. -/
def mkN (i : Nat) : Int := 8000024 + (i : Int)
def mkM (i : Nat) : Mem := (mkN i, 0, 0, 0)
def mksN (n : Nat) : List Int := (List.range n).map mkN
def mksM (n : Nat) : List Mem := (List.range n).map mkM
@[simp] theorem mksN_length (n : Nat) : (mksN n).length = n := by simp [mksN]
@[simp] theorem mksM_length (n : Nat) : (mksM n).length = n := by simp [mksM]
theorem mksN_succ (n : Nat) : mksN (n + 1) = mksN n ++ [mkN n] := by simp [mksN, List.range_succ]
theorem mksM_succ (n : Nat) : mksM (n + 1) = mksM n ++ [mkM n] := by simp [mksM, List.range_succ]
theorem mksN_get {n i : Nat} (h : i < n) : (mksN n)[i]? = some (mkN i) := by simp [mksN, h]
theorem mksM_get {n i : Nat} (h : i < n) : (mksM n)[i]? = some (mkM i) := by simp [mksM, h]

theorem mv_at (l : List Mem) (j : Nat) (u : Value) (h : (mv l)[j]? = some u) : ∃ i m, l[i]? = some m ∧ ((j = i * 4 ∧ u = .int .i64 m.1) ∨ (j = i * 4 + 1 ∧ u = .int .u8 m.2.1) ∨ (j = i * 4 + 2 ∧ u = .int .i64 m.2.2.1) ∨ (j = i * 4 + 3 ∧ u = .int .i64 m.2.2.2)) := by
  have hj := (List.getElem?_eq_some_iff.1 h).1
  rw [mv_length] at hj
  have hi : j / 4 < l.length := by omega
  obtain ⟨k0, k1, k2, k3⟩ := mv_get l (j / 4) l[j / 4] (List.getElem?_eq_getElem hi)
  refine ⟨j / 4, l[j / 4], List.getElem?_eq_getElem hi, ?_⟩
  have h4 : j = j / 4 * 4 ∨ j = j / 4 * 4 + 1 ∨ j = j / 4 * 4 + 2 ∨ j = j / 4 * 4 + 3 := by omega
  rcases h4 with e | e | e | e
  · rw [← e, h] at k0; exact .inl ⟨e, Option.some.inj k0⟩
  · rw [← e, h] at k1; exact .inr (.inl ⟨e, Option.some.inj k1⟩)
  · rw [← e, h] at k2; exact .inr (.inr (.inl ⟨e, Option.some.inj k2⟩))
  · rw [← e, h] at k3; exact .inr (.inr (.inr ⟨e, Option.some.inj k3⟩))
theorem RdM.srcs {w : World} {lo hi : Nat} {A : Option Addr} {l : List Mem} (h : RdM w lo hi A l) : 0 < l.length → ∃ ad, A = some ad ∧ ∀ j u, (mv l)[j]? = some u → w.cell? (ad.add j) = some u := fun hl => by
  obtain ⟨b, o, rfl, _, _, hc⟩ := h hl
  refine ⟨_, rfl, fun j u hj => ?_⟩
  rw [Lib.addr_add]
  obtain ⟨i, m, hm, h4⟩ := mv_at l j u hj
  obtain ⟨d0, d1, d2, d3⟩ := hc i m hm
  rcases h4 with ⟨rfl, rfl⟩ | ⟨rfl, rfl⟩ | ⟨rfl, rfl⟩ | ⟨rfl, rfl⟩
  · exact d0
  · rw [← Nat.add_assoc]; exact d1
  · rw [← Nat.add_assoc]; exact d2
  · rw [← Nat.add_assoc]; exact d3
theorem RdM.pre {w : World} {lo hi : Nat} {A : Option Addr} {a b : List Mem} (h : RdM w lo hi A (a ++ b)) : RdM w lo hi A a := fun hl => by
  obtain ⟨g, o, rfl, h1, h2, hc⟩ := h (by rw [List.length_append]; omega)
  exact ⟨g, o, rfl, h1, h2, fun i m hm => hc i m (by rw [List.getElem?_append_left (List.getElem?_eq_some_iff.1 hm).1]; exact hm)⟩
theorem RdI.pre {w : World} {lo hi : Nat} {A : Option Addr} {a b : List Int} (h : RdI w lo hi A (a ++ b)) : RdI w lo hi A a := fun hl => by
  obtain ⟨g, o, rfl, h1, h2, hc⟩ := h (by rw [List.length_append]; omega)
  refine ⟨g, o, rfl, h1, h2, fun i hi => ?_⟩
  rw [hc i (by rw [List.length_append]; omega)]
  simp [List.getD, List.getElem?_append_left hi]

/-- A row of the call's own, and the frame. -/
structure Ow (wx w : World) (e : TypeId) (size : Nat) (V : Value) (n : Nat) (xs : List Value) : Prop where
  fr : Fr NoB wx w
  own : w.ownsRow wx.heap.size e size V n xs
section
variable {wx w w' : World} {e : TypeId} {size n N : Nat} {V V' : Value} {xs ys : List Value}
theorem Ow.keep (h : Ow wx w e size V n xs) (f : Fr NoB w w') : Ow wx w' e size V n xs :=
  ⟨h.fr.then f, own_keep h.own fun g hg => f.block g (h.own.lt g hg).2 (fun x => x)⟩
theorem Ow.push {o : Obj} (h : Ow wx w e size V n xs) (hA : App wx.heap.size e size V N ys (w.alloc o) V' w') : Ow wx w' e size V' N ys :=
  ⟨(h.fr.alloc o).upE hA.fr (fun k hk => (h.own.lt k hk).1), hA.own⟩
theorem Ow.push0 (h : Ow wx w e size V n xs) (hA : App wx.heap.size e size V N ys w V' w') : Ow wx w' e size V' N ys :=
  ⟨h.fr.upE hA.fr (fun k hk => (h.own.lt k hk).1), hA.own⟩
end

set_option maxRecDepth 20000 in
theorem mem_eql (x0 x1 x2 x3 y0 y1 y2 y3 : Int) (W : World) : (binOp .eql 30 (.agg #[.int .i64 x0, .int .u8 x1, .int .i64 x2, .int .i64 x3]) (.agg #[.int .i64 y0, .int .u8 y1, .int .i64 y2, .int .i64 y3])).run Tryd.prog W = .ok (.bool ((x0, x1, x2, x3) == (y0, y1, y2, y3))) W := by
  obtain ⟨d, hd⟩ : ∃ d, 10000 = d + 1 + 1 + 1 := ⟨9997, rfl⟩
  rw [run_eql_struct, hd, run_equalIn_agg W _ 30 _ _ (by kernel_rfl) (by kernel_rfl)]
  have hf : (Program.fieldsOf Tryd.prog 30) = (match Tryd.prog.underlying 30 with | some (.struct fs) => fs | _ => #[]) := rfl
  rw [Tryd.underlying30] at hf
  rw [hf]
  simp [go_sem, Tryd.underlying3, Tryd.underlying28]
  have hb : ((x0, x1, x2, x3) == (y0, y1, y2, y3)) = decide (x0 = y0 ∧ x1 = y1 ∧ x2 = y2 ∧ x3 = y3) := by rw [Bool.eq_iff_iff]; simp
  rw [hb]
  by_cases h0 : x0 = y0 <;> by_cases h1 : x1 = y1 <;> by_cases h2 : x2 = y2 <;> by_cases h3 : x3 = y3 <;> simp [h0, h1, h2, h3]

set_option maxHeartbeats 800000 in
theorem mark_calls (i : Nat) (hi : i ≤ 12) (w : World) :
    Calls Tryd.prog 62 #[.int .i64 1, .int .i64 (i : Int)] w fun e w' => e = .returned (.int .i64 (mkN i)) ∧ Fr NoB w w' := by
  have hii : (i : Int) ≤ 12 := by omega
  go_enter Tryd.func62, Tryd.ntmps62
  go_wp2
  go_ret
  exact ⟨rfl, Fr.refl NoB w⟩

set_option maxHeartbeats 800000 in
theorem markm_calls (i : Nat) (hi : i ≤ 12) (w : World) :
    Calls Tryd.prog 64 #[.int .i64 1, .int .i64 (i : Int)] w fun e w' => e = .returned (memOr (some (mkM i))) ∧ Fr NoB w w' := by
  have HC := Lib.hid (fun W => mark_calls i hi W)
  go_enter Tryd.func64, Tryd.ntmps64
  go_wp2_with (fail)
  refine (HC.out _).mono ?_
  rintro e w1 ⟨rfl, f1⟩
  have F1 := Lib.hid f1
  clear f1 HC
  have HR := Lib.hid (F1.out.at_ (heap_alloc_new w _) (fun x => x))
  have hr := HR.out
  have q0 := (cells_of hr 0).2
  have q1 := (cells_of hr 1).2
  have q2 := (cells_of hr 2).2
  have q3 := (cells_of hr 3).2
  have r0 := (cells_of hr 0).1
  have r1 := (cells_of hr 1).1
  have r2 := (cells_of hr 2).1
  have r3 := (cells_of hr 3).1
  simp only [List.getElem?_toArray, List.getElem?_cons_zero, List.getElem?_cons_succ] at r0 r1 r2 r3
  have F2 := Lib.hid (((Fr.refl NoB w).alloc _).then F1.out)
  clear hr F1
  go_wp2
  refine bodyPost_ret (v := memOr (some (mkM i))) (results_cell_row (fn := Tryd.f64) (p := 4) (ty := 30) (by kernel_rfl) _ _ w.heap.size 30 _ _ _ rfl (four_set HR.out) Tryd.underlying30 rfl (by kernel_rfl)) rfl ⟨rfl, four_fr F2.out _ (Nat.le_refl _) _ _ _ _⟩

set_option maxRecDepth 4000 in
set_option maxHeartbeats 3200000 in
theorem lentm_calls (A : Option Addr) (ms : List Mem) (c lo hi : Nat) (w : World) (h : RdM w lo hi A ms) (hh : hi ≤ w.heap.size) (hl : ms.length ≤ 4398046510976) :
    Calls Tryd.prog 37 #[.slice A ms.length c] w fun e w' => ∃ A' c', e = .returned (.slice A' ms.length c') ∧ ms.length + 12 ≤ c' ∧ c' ≤ maxLen ∧ RdM w' w.heap.size w'.heap.size A' (ms ++ mksM 12) ∧ Fr NoB w w' := by
  have hll : (ms.length : Int) ≤ 4398046510976 := by omega
  obtain ⟨i0, hi0, hz0, hz1, hz2⟩ := info_parts info_mem
  obtain ⟨wa, hmk, hown, hgr⟩ := run_make_own (P := Tryd.prog) (w := w) w.heap.size 23 30 i0 (.agg #[.int .i64 0, .int .u8 0, .int .i64 0, .int .i64 0]) 4 Tryd.underlying23 hi0 hz0 hz1 .i64 .i64 (ms.length + 12) (by rw [hz2]; omega) (by unfold maxLen; omega) (Nat.le_refl _)
  rw [show ((ms.length + 12 : Nat) : Int) = (ms.length : Int) + 12 by omega] at hmk
  have O1 : Ow w wa 30 4 (.slice (some ⟨w.heap.size, 0, none⟩) 0 (ms.length + 12)) 0 (mv []) := ⟨Fr.ofGrown hgr (fun _ _ hx => by cases hx), hown⟩
  generalize (Value.slice (some ⟨w.heap.size, 0, none⟩) 0 (ms.length + 12)) = V0 at hmk O1
  have H1 := Lib.hid (h.fr O1.fr hh (fun _ _ _ x => x))
  have HO := Lib.hid O1
  have HC := Lib.hid (fun (k : Nat) (hk : k ≤ 12) W => markm_calls k hk W)
  clear h hown hgr O1
  go_enter Tryd.func37, Tryd.ntmps37
  go_wp2_with (at_builtin; go_loud (refine wpList_append_src _ rfl _ _ 23 rfl w.heap.size 30 i0 (.agg #[.int .i64 0, .int .u8 0, .int .i64 0, .int .i64 0]) 4 32 Tryd.underlying23 hi0 hz0 hz1 hz2 rfl (by decide) V0 0 (mv []) rfl HO.out.own A ms.length c (mv ms) rfl (mv_length ms) H1.out.srcs (mv_one ms) (by unfold maxLen; omega) (by omega) HO.out.fr.size ?_))
  intro V1 w1 hA1
  have o2 : Ow w w1 30 4 V1 ms.length (mv ms) := by have h := HO.out.push0 hA1; simpa [mv] using h
  have HO2 := Lib.hid o2
  clear hA1 o2 HO H1 hmk
  go_wp2
  go_loopw [3, 4] (fun out i wr => ∃ (k : Nat) (V : Value), k ≤ 12 ∧ i = .int .i64 (k : Int) ∧ V = out ∧ Ow w wr 30 4 V (ms.length + k) (mv (ms ++ mksM k))) (fun _ i _ => 12 - (intOf i).toNat)
  case atStart => exact ⟨0, V1, by omega, rfl, rfl, by simpa [mksM] using HO2.out⟩
  case round =>
    obtain ⟨k, V, hk, rfl, rfl, ho⟩ := hrel
    have HK := Lib.hid ho
    clear ho HO2
    by_cases hlt : k < 12
    · have hki : (k : Int) < 12 := by omega
      go_wp2_with (fail)
      refine (HC.out k (by omega) _).mono ?_
      rintro e w2 ⟨rfl, f2⟩
      have K2 := Lib.hid (HK.out.keep f2)
      clear f2 HK
      simp only [memOr, mkM]
      have hsrc : ∀ (t : TypeId) (j : Nat) (u : Value), (mv [mkM k])[j]? = some u → (w2.alloc (.cells #[.int .i64 (mkN k), .int .u8 0, .int .i64 0, .int .i64 0] t)).cell? ((⟨w2.heap.size, 0, none⟩ : Addr).add j) = some u := fun t j u hj => by
        obtain ⟨ad, g1, g2⟩ := src_block w2 #[.int .i64 (mkN k), .int .u8 0, .int .i64 0, .int .i64 0] t (mv [mkM k]) rfl
        cases g1
        exact g2 j u hj
      have HSRC := Lib.hid hsrc
      clear hsrc
      go_wp2_with (at_builtin; go_loud (refine wpList_append_src _ rfl _ _ 23 rfl w.heap.size 30 i0 (.agg #[.int .i64 0, .int .u8 0, .int .i64 0, .int .i64 0]) 4 32 Tryd.underlying23 hi0 hz0 hz1 hz2 rfl (by decide) V (ms.length + k) (mv (ms ++ mksM k)) rfl (K2.out.own.alloc _) _ 1 _ (mv [mkM k]) rfl rfl (fun _ => ⟨_, rfl, HSRC.out _⟩) (mv_one _) (by unfold maxLen; omega) (by omega) (by have := K2.out.fr.size; simp; omega) ?_))
      intro V3 w3 hA3
      have o3 : Ow w w3 30 4 V3 (ms.length + (k + 1)) (mv (ms ++ mksM (k + 1))) := by
        have h := K2.out.push hA3
        rw [← mv_append, List.append_assoc, ← mksM_succ] at h
        exact h
      have HO3 := Lib.hid o3
      clear hA3 o3 HSRC K2
      go_wp2
      go_roundw
      case rel => exact ⟨k + 1, V3, by omega, by go_num, rfl, HO3.out⟩
      case measure => simp [intOf]; omega
    · obtain rfl : k = 12 := by omega
      have ho := HK.out
      obtain ⟨AV, cV, hVe, hl1, hl2⟩ := own_form4 ho.own
      subst hVe
      have hle : (ms ++ mksM 12).length = ms.length + 12 := by simp
      have HRR := Lib.hid (own_rdm (l := ms ++ mksM 12) (by rw [hle]; exact ho.own))
      have HF := Lib.hid ho.fr
      have hl3 : ms.length ≤ cV := by omega
      unfold maxLen at hl2
      clear ho HK hlt hk
      go_wp2
      go_ret
      exact ⟨AV, cV, rfl, hl1, by unfold maxLen; omega, HRR.out, HF.out⟩

set_option maxRecDepth 4000 in
set_option maxHeartbeats 3200000 in
theorem keptm_calls (A A' : Option Addr) (ms : List Mem) (c c' lo hi lo' hi' : Nat) (w : World) (h' : RdM w lo' hi' A' (ms ++ mksM 12)) (hh' : hi' ≤ w.heap.size) (h : RdM w lo hi A ms) (hh : hi ≤ w.heap.size) (hl : ms.length ≤ 4398046510976) (hc : ms.length + 12 ≤ c') :
    Calls Tryd.prog 42 #[.slice A' ms.length c', .slice A ms.length c] w fun e w' => e = .returned (.bool true) ∧ Fr NoB w w' := by
  have hll : (ms.length : Int) ≤ 4398046510976 := by omega
  have hwl : IntKind.i64.wrap ((ms.length : Int) + 12) = (ms.length : Int) + 12 := by rw [IntKind.wrap_i64]; omega
  have H1 := Lib.hid h
  have H2 := Lib.hid h'
  have hci : (ms.length : Int) + 12 ≤ (c' : Int) := by omega
  clear h h'
  go_enter Tryd.func42, Tryd.ntmps42
  go_wp2
  go_loopw [4, 6] (fun r i wr => r = .bool false ∧ ∃ k : Nat, k ≤ ms.length + 12 ∧ i = .int .i64 (k : Int) ∧ Fr NoB w wr) (fun _ i _ => ms.length + 12 - (intOf i).toNat)
  case atStart => exact ⟨rfl, 0, Nat.zero_le _, rfl, Fr.refl NoB w⟩
  case round =>
    obtain ⟨rfl, k, hk, rfl, hf⟩ := hrel
    have FR := Lib.hid hf
    clear hf
    by_cases hlt : k < ms.length
    · obtain ⟨b, o, rfl, hb1, hb2, h0⟩ := H1.out (by omega)
      obtain ⟨b', o', rfl, hb1', hb2', h0'⟩ := H2.out (by rw [List.length_append]; omega)
      obtain ⟨c0, c1, c2, c3⟩ := h0 k ms[k] (List.getElem?_eq_getElem hlt)
      obtain ⟨d0, d1, d2, d3⟩ := h0' k ms[k] (by rw [List.getElem?_append_left hlt]; exact List.getElem?_eq_getElem hlt)
      clear h0 h0'
      generalize ms[k] = x at c0 c1 c2 c3 d0 d1 d2 d3
      obtain ⟨x0, x1, x2, x3⟩ := x
      simp only at c0 c1 c2 c3 d0 d1 d2 d3
      have e0 := (FR.out.cell (p := ⟨b, o + k * 4, none⟩) (by simp only; omega) (fun x => x)).trans c0
      have e1 := (FR.out.cell (p := ⟨b, o + k * 4 + 1, none⟩) (by simp only; omega) (fun x => x)).trans c1
      have e2 := (FR.out.cell (p := ⟨b, o + k * 4 + 2, none⟩) (by simp only; omega) (fun x => x)).trans c2
      have e3 := (FR.out.cell (p := ⟨b, o + k * 4 + 3, none⟩) (by simp only; omega) (fun x => x)).trans c3
      have u0 := (FR.out.cell (p := ⟨b', o' + k * 4, none⟩) (by simp only; omega) (fun x => x)).trans d0
      have u1 := (FR.out.cell (p := ⟨b', o' + k * 4 + 1, none⟩) (by simp only; omega) (fun x => x)).trans d1
      have u2 := (FR.out.cell (p := ⟨b', o' + k * 4 + 2, none⟩) (by simp only; omega) (fun x => x)).trans d2
      have u3 := (FR.out.cell (p := ⟨b', o' + k * 4 + 3, none⟩) (by simp only; omega) (fun x => x)).trans d3
      clear c0 c1 c2 c3 d0 d1 d2 d3
      have hi1 : (k : Int) < (ms.length : Int) := by omega
      have hi2 : (k : Int) < (ms.length : Int) + 12 := by omega
      have hd1 : decide ((k : Int) < (ms.length : Int)) = true := by simp; omega
      have hd2 : decide ((ms.length : Int) ≤ (k : Int)) = false := by simp; omega
      have hd3 : decide (k < ms.length) = true := by simp; omega
      have hd4 : decide (ms.length ≤ k) = false := by simp; omega
      have hnq : ∀ W, (binOp .eql 30 (.agg #[.int .i64 x0, .int .u8 x1, .int .i64 x2, .int .i64 x3]) (.agg #[.int .i64 x0, .int .u8 x1, .int .i64 x2, .int .i64 x3])).run Tryd.prog W = .ok (.bool true) W := fun W => by rw [mem_eql]; simp
      go_wp2
      go_quiet (fail)
      go_wp2
      go_roundw
      case rel => exact ⟨rfl, k + 1, by omega, by go_num, FR.out.drewN nq⟩
      case measure => simp [intOf]; omega
    · by_cases hlt2 : k < ms.length + 12
      · obtain ⟨j, hj⟩ : ∃ j : Nat, k = ms.length + j := ⟨k - ms.length, by omega⟩
        obtain ⟨b', o', rfl, hb1', hb2', h0'⟩ := H2.out (by rw [List.length_append, mksM_length]; omega)
        obtain ⟨d0, d1, d2, d3⟩ := h0' k (mkM j) (by rw [List.getElem?_append_right (by omega), hj, Nat.add_sub_cancel_left]; exact mksM_get (by omega))
        simp only [mkM] at d0 d1 d2 d3
        have HE := Lib.hid (fun W (f : Fr NoB w W) => (f.cell (p := ⟨b', o' + k * 4, none⟩) (by simp only; omega) (fun x => x)).trans d0)
        have HE1 := Lib.hid (fun W (f : Fr NoB w W) => (f.cell (p := ⟨b', o' + k * 4 + 1, none⟩) (by simp only; omega) (fun x => x)).trans d1)
        have HE2 := Lib.hid (fun W (f : Fr NoB w W) => (f.cell (p := ⟨b', o' + k * 4 + 2, none⟩) (by simp only; omega) (fun x => x)).trans d2)
        have HE3 := Lib.hid (fun W (f : Fr NoB w W) => (f.cell (p := ⟨b', o' + k * 4 + 3, none⟩) (by simp only; omega) (fun x => x)).trans d3)
        have u0 := HE.out _ FR.out
        have u1 := HE1.out _ FR.out
        have u2 := HE2.out _ FR.out
        have u3 := HE3.out _ FR.out
        clear d0 d1 d2 d3 h0'
        have hi2 : (k : Int) < (ms.length : Int) + 12 := by omega
        have hd1 : decide ((k : Int) < (ms.length : Int)) = false := by simp; omega
        have hd2 : decide ((ms.length : Int) ≤ (k : Int)) = true := by simp; omega
        have hd3 : decide (k < ms.length) = false := by simp; omega
        have hd4 : decide (ms.length ≤ k) = true := by simp; omega
        have hsub : IntKind.i64.wrap ((k : Int) - (ms.length : Int)) = (j : Int) := by rw [IntKind.wrap_i64]; omega
        have hm : ∀ W, Calls Tryd.prog 64 #[.int .i64 1, .int .i64 (j : Int)] W fun e w' => e = .returned (.agg #[.int .i64 (mkN j), .int .u8 0, .int .i64 0, .int .i64 0]) ∧ Fr NoB W w' := fun W => markm_calls j (by omega) W
        have HC := Lib.hid hm
        have hnq : ∀ W, (binOp .eql 30 (.agg #[.int .i64 (mkN j), .int .u8 0, .int .i64 0, .int .i64 0]) (.agg #[.int .i64 (mkN j), .int .u8 0, .int .i64 0, .int .i64 0])).run Tryd.prog W = .ok (.bool true) W := fun W => by rw [mem_eql]; simp
        clear hj hm hlt
        go_wp2
        refine wp_region_held_drew (S := fun W => W.cell? ⟨b', o' + k * 4, none⟩ = some (.int .i64 (mkN j)) ∧ W.cell? ⟨b', o' + k * 4 + 1, none⟩ = some (.int .u8 0) ∧ W.cell? ⟨b', o' + k * 4 + 2, none⟩ = some (.int .i64 0) ∧ W.cell? ⟨b', o' + k * 4 + 3, none⟩ = some (.int .i64 0)) (by kernel_rfl) ⟨u0, u1, u2, u3⟩ (fun hHeld => ?_)
        first | (refine wpAnyH_take (i := 0) (v := undef) (by simp only [List.getElem?_toArray, List.getElem?_cons_zero]; rfl) (by kernel_rfl) (by kernel_rfl) (by kernel_rfl) (by exact fun _ _ _ h => h) (Or.inr ⟨by rfl, rfl⟩) (by assumption) ?_) | (refine wpAnyH_take (i := 0) (v := ?_) (by simp only [List.getElem?_toArray, List.getElem?_cons_zero]; rfl) (by kernel_rfl) (by kernel_rfl) (by kernel_rfl) (by exact fun _ _ _ h => h) (Or.inl ⟨by rfl, ?_⟩) (by assumption) ?_; rotate_left; · (intro w hSw; (try dsimp only at hSw); go_simp; (try with_reducible rfl)))
        try simp only [Act.put, List.setIfInBounds_toArray, List.set_cons_zero, List.set_cons_succ]
        first | (refine wpAnyH_take (i := 1) (v := undef) (by simp only [List.getElem?_toArray, List.getElem?_cons_succ, List.getElem?_cons_zero]; rfl) (by kernel_rfl) (by kernel_rfl) (by kernel_rfl) (by exact fun _ _ _ h => h) (Or.inr ⟨by rfl, rfl⟩) (by assumption) ?_) | (refine wpAnyH_take (i := 1) (v := ?_) (by simp only [List.getElem?_toArray, List.getElem?_cons_succ, List.getElem?_cons_zero]; rfl) (by kernel_rfl) (by kernel_rfl) (by kernel_rfl) (by exact fun _ _ _ h => h) (Or.inl ⟨by rfl, ?_⟩) (by assumption) ?_; rotate_left; · (intro w hSw; (try dsimp only at hSw); go_simp; (try with_reducible rfl)))
        try simp only [Act.put, List.setIfInBounds_toArray, List.set_cons_zero, List.set_cons_succ]
        first | (refine wpAnyH_take (i := 2) (v := undef) (by simp only [List.getElem?_toArray, List.getElem?_cons_succ, List.getElem?_cons_zero]; rfl) (by kernel_rfl) (by kernel_rfl) (by kernel_rfl) (by exact fun _ _ _ h => h) (Or.inr ⟨by rfl, rfl⟩) (by assumption) ?_) | (refine wpAnyH_take (i := 2) (v := ?_) (by simp only [List.getElem?_toArray, List.getElem?_cons_succ, List.getElem?_cons_zero]; rfl) (by kernel_rfl) (by kernel_rfl) (by kernel_rfl) (by exact fun _ _ _ h => h) (Or.inl ⟨by rfl, ?_⟩) (by assumption) ?_; rotate_left; · (intro w hSw; (try dsimp only at hSw); go_simp; (try with_reducible rfl)))
        try simp only [Act.put, List.setIfInBounds_toArray, List.set_cons_zero, List.set_cons_succ]
        first | (refine wpAnyH_take (i := 3) (v := undef) (by simp only [List.getElem?_toArray, List.getElem?_cons_succ, List.getElem?_cons_zero]; rfl) (by kernel_rfl) (by kernel_rfl) (by kernel_rfl) (by exact fun _ _ _ h => h) (Or.inr ⟨by rfl, rfl⟩) (by assumption) ?_) | (refine wpAnyH_take (i := 3) (v := ?_) (by simp only [List.getElem?_toArray, List.getElem?_cons_succ, List.getElem?_cons_zero]; rfl) (by kernel_rfl) (by kernel_rfl) (by kernel_rfl) (by exact fun _ _ _ h => h) (Or.inl ⟨by rfl, ?_⟩) (by assumption) ?_; rotate_left; · (intro w hSw; (try dsimp only at hSw); go_simp; (try with_reducible rfl)))
        try simp only [Act.put, List.setIfInBounds_toArray, List.set_cons_zero, List.set_cons_succ]
        first | (refine wpAnyH_take (i := 4) (v := undef) (by simp only [List.getElem?_toArray, List.getElem?_cons_succ, List.getElem?_cons_zero]; rfl) (by kernel_rfl) (by kernel_rfl) (by kernel_rfl) (by exact fun _ _ _ h => h) (Or.inr ⟨by rfl, rfl⟩) (by assumption) ?_) | (refine wpAnyH_take (i := 4) (v := ?_) (by simp only [List.getElem?_toArray, List.getElem?_cons_succ, List.getElem?_cons_zero]; rfl) (by kernel_rfl) (by kernel_rfl) (by kernel_rfl) (by exact fun _ _ _ h => h) (Or.inl ⟨by rfl, ?_⟩) (by assumption) ?_; rotate_left; · (intro w hSw; (try dsimp only at hSw); go_simp; (try with_reducible rfl)))
        try simp only [Act.put, List.setIfInBounds_toArray, List.set_cons_zero, List.set_cons_succ]
        first | (refine wpAnyH_take (i := 5) (v := undef) (by simp only [List.getElem?_toArray, List.getElem?_cons_succ, List.getElem?_cons_zero]; rfl) (by kernel_rfl) (by kernel_rfl) (by kernel_rfl) (by exact fun _ _ _ h => h) (Or.inr ⟨by rfl, rfl⟩) (by assumption) ?_) | (refine wpAnyH_take (i := 5) (v := ?_) (by simp only [List.getElem?_toArray, List.getElem?_cons_succ, List.getElem?_cons_zero]; rfl) (by kernel_rfl) (by kernel_rfl) (by kernel_rfl) (by exact fun _ _ _ h => h) (Or.inl ⟨by rfl, ?_⟩) (by assumption) ?_; rotate_left; · (intro w hSw; (try dsimp only at hSw); go_simp; (try with_reducible rfl)))
        try simp only [Act.put, List.setIfInBounds_toArray, List.set_cons_zero, List.set_cons_succ]
        first | (refine wpAnyH_take (i := 6) (v := undef) (by simp only [List.getElem?_toArray, List.getElem?_cons_succ, List.getElem?_cons_zero]; rfl) (by kernel_rfl) (by kernel_rfl) (by kernel_rfl) (by exact fun _ _ _ h => h) (Or.inr ⟨by rfl, rfl⟩) (by assumption) ?_) | (refine wpAnyH_take (i := 6) (v := ?_) (by simp only [List.getElem?_toArray, List.getElem?_cons_succ, List.getElem?_cons_zero]; rfl) (by kernel_rfl) (by kernel_rfl) (by kernel_rfl) (by exact fun _ _ _ h => h) (Or.inl ⟨by rfl, ?_⟩) (by assumption) ?_; rotate_left; · (intro w hSw; (try dsimp only at hSw); go_simp; (try with_reducible rfl)))
        try simp only [Act.put, List.setIfInBounds_toArray, List.set_cons_zero, List.set_cons_succ]
        first | (refine wpAnyH_take (i := 7) (v := undef) (by simp only [List.getElem?_toArray, List.getElem?_cons_succ, List.getElem?_cons_zero]; rfl) (by kernel_rfl) (by kernel_rfl) (by kernel_rfl) (by exact fun _ _ _ h => h) (Or.inr ⟨by rfl, rfl⟩) (by assumption) ?_) | (refine wpAnyH_take (i := 7) (v := ?_) (by simp only [List.getElem?_toArray, List.getElem?_cons_succ, List.getElem?_cons_zero]; rfl) (by kernel_rfl) (by kernel_rfl) (by kernel_rfl) (by exact fun _ _ _ h => h) (Or.inl ⟨by rfl, ?_⟩) (by assumption) ?_; rotate_left; · (intro w hSw; (try dsimp only at hSw); go_simp; (try with_reducible rfl)))
        try simp only [Act.put, List.setIfInBounds_toArray, List.set_cons_zero, List.set_cons_succ]
        first | (refine wpAnyH_take (i := 8) (v := undef) (by simp only [List.getElem?_toArray, List.getElem?_cons_succ, List.getElem?_cons_zero]; rfl) (by kernel_rfl) (by kernel_rfl) (by kernel_rfl) (by exact fun _ _ _ h => h) (Or.inr ⟨by rfl, rfl⟩) (by assumption) ?_) | (refine wpAnyH_take (i := 8) (v := ?_) (by simp only [List.getElem?_toArray, List.getElem?_cons_succ, List.getElem?_cons_zero]; rfl) (by kernel_rfl) (by kernel_rfl) (by kernel_rfl) (by exact fun _ _ _ h => h) (Or.inl ⟨by rfl, ?_⟩) (by assumption) ?_; rotate_left; · (intro w hSw; (try dsimp only at hSw); go_simp; (try with_reducible rfl)))
        try simp only [Act.put, List.setIfInBounds_toArray, List.set_cons_zero, List.set_cons_succ]
        first | (refine wpAnyH_take (i := 9) (v := undef) (by simp only [List.getElem?_toArray, List.getElem?_cons_succ, List.getElem?_cons_zero]; rfl) (by kernel_rfl) (by kernel_rfl) (by kernel_rfl) (by exact fun _ _ _ h => h) (Or.inr ⟨by rfl, rfl⟩) (by assumption) ?_) | (refine wpAnyH_take (i := 9) (v := ?_) (by simp only [List.getElem?_toArray, List.getElem?_cons_succ, List.getElem?_cons_zero]; rfl) (by kernel_rfl) (by kernel_rfl) (by kernel_rfl) (by exact fun _ _ _ h => h) (Or.inl ⟨by rfl, ?_⟩) (by assumption) ?_; rotate_left; · (intro w hSw; (try dsimp only at hSw); go_simp; (try with_reducible rfl)))
        try simp only [Act.put, List.setIfInBounds_toArray, List.set_cons_zero, List.set_cons_succ]
        first | (refine wpAnyH_take (i := 10) (v := undef) (by simp only [List.getElem?_toArray, List.getElem?_cons_succ, List.getElem?_cons_zero]; rfl) (by kernel_rfl) (by kernel_rfl) (by kernel_rfl) (by exact fun _ _ _ h => h) (Or.inr ⟨by rfl, rfl⟩) (by assumption) ?_) | (refine wpAnyH_take (i := 10) (v := ?_) (by simp only [List.getElem?_toArray, List.getElem?_cons_succ, List.getElem?_cons_zero]; rfl) (by kernel_rfl) (by kernel_rfl) (by kernel_rfl) (by exact fun _ _ _ h => h) (Or.inl ⟨by rfl, ?_⟩) (by assumption) ?_; rotate_left; · (intro w hSw; (try dsimp only at hSw); go_simp; (try with_reducible rfl)))
        try simp only [Act.put, List.setIfInBounds_toArray, List.set_cons_zero, List.set_cons_succ]
        first | (refine wpAnyH_take (i := 11) (v := undef) (by simp only [List.getElem?_toArray, List.getElem?_cons_succ, List.getElem?_cons_zero]; rfl) (by kernel_rfl) (by kernel_rfl) (by kernel_rfl) (by exact fun _ _ _ h => h) (Or.inr ⟨by rfl, rfl⟩) (by assumption) ?_) | (refine wpAnyH_take (i := 11) (v := ?_) (by simp only [List.getElem?_toArray, List.getElem?_cons_succ, List.getElem?_cons_zero]; rfl) (by kernel_rfl) (by kernel_rfl) (by kernel_rfl) (by exact fun _ _ _ h => h) (Or.inl ⟨by rfl, ?_⟩) (by assumption) ?_; rotate_left; · (intro w hSw; (try dsimp only at hSw); go_simp; (try with_reducible rfl)))
        try simp only [Act.put, List.setIfInBounds_toArray, List.set_cons_zero, List.set_cons_succ]
        first | (refine wpAnyH_take (i := 12) (v := undef) (by simp only [List.getElem?_toArray, List.getElem?_cons_succ, List.getElem?_cons_zero]; rfl) (by kernel_rfl) (by kernel_rfl) (by kernel_rfl) (by exact fun _ _ _ h => h) (Or.inr ⟨by rfl, rfl⟩) (by assumption) ?_) | (refine wpAnyH_take (i := 12) (v := ?_) (by simp only [List.getElem?_toArray, List.getElem?_cons_succ, List.getElem?_cons_zero]; rfl) (by kernel_rfl) (by kernel_rfl) (by kernel_rfl) (by exact fun _ _ _ h => h) (Or.inl ⟨by rfl, ?_⟩) (by assumption) ?_; rotate_left; · (intro w hSw; (try dsimp only at hSw); go_simp; (try with_reducible rfl)))
        try simp only [Act.put, List.setIfInBounds_toArray, List.set_cons_zero, List.set_cons_succ]
        first | (refine wpAnyH_take (i := 13) (v := undef) (by simp only [List.getElem?_toArray, List.getElem?_cons_succ, List.getElem?_cons_zero]; rfl) (by kernel_rfl) (by kernel_rfl) (by kernel_rfl) (by exact fun _ _ _ h => h) (Or.inr ⟨by rfl, rfl⟩) (by assumption) ?_) | (refine wpAnyH_take (i := 13) (v := ?_) (by simp only [List.getElem?_toArray, List.getElem?_cons_succ, List.getElem?_cons_zero]; rfl) (by kernel_rfl) (by kernel_rfl) (by kernel_rfl) (by exact fun _ _ _ h => h) (Or.inl ⟨by rfl, ?_⟩) (by assumption) ?_; rotate_left; · (intro w hSw; (try dsimp only at hSw); go_simp; (try with_reducible rfl)))
        try simp only [Act.put, List.setIfInBounds_toArray, List.set_cons_zero, List.set_cons_succ]
        first | (refine wpAnyH_take (i := 14) (v := undef) (by simp only [List.getElem?_toArray, List.getElem?_cons_succ, List.getElem?_cons_zero]; rfl) (by kernel_rfl) (by kernel_rfl) (by kernel_rfl) (by exact fun _ _ _ h => h) (Or.inr ⟨by rfl, rfl⟩) (by assumption) ?_) | (refine wpAnyH_take (i := 14) (v := ?_) (by simp only [List.getElem?_toArray, List.getElem?_cons_succ, List.getElem?_cons_zero]; rfl) (by kernel_rfl) (by kernel_rfl) (by kernel_rfl) (by exact fun _ _ _ h => h) (Or.inl ⟨by rfl, ?_⟩) (by assumption) ?_; rotate_left; · (intro w hSw; (try dsimp only at hSw); go_simp; (try with_reducible rfl)))
        try simp only [Act.put, List.setIfInBounds_toArray, List.set_cons_zero, List.set_cons_succ]
        first | (refine wpAnyH_take (i := 15) (v := undef) (by simp only [List.getElem?_toArray, List.getElem?_cons_succ, List.getElem?_cons_zero]; rfl) (by kernel_rfl) (by kernel_rfl) (by kernel_rfl) (by exact fun _ _ _ h => h) (Or.inr ⟨by rfl, rfl⟩) (by assumption) ?_) | (refine wpAnyH_take (i := 15) (v := ?_) (by simp only [List.getElem?_toArray, List.getElem?_cons_succ, List.getElem?_cons_zero]; rfl) (by kernel_rfl) (by kernel_rfl) (by kernel_rfl) (by exact fun _ _ _ h => h) (Or.inl ⟨by rfl, ?_⟩) (by assumption) ?_; rotate_left; · (intro w hSw; (try dsimp only at hSw); go_simp; (try with_reducible rfl)))
        try simp only [Act.put, List.setIfInBounds_toArray, List.set_cons_zero, List.set_cons_succ]
        first | (refine wpAnyH_take (i := 16) (v := undef) (by simp only [List.getElem?_toArray, List.getElem?_cons_succ, List.getElem?_cons_zero]; rfl) (by kernel_rfl) (by kernel_rfl) (by kernel_rfl) (by exact fun _ _ _ h => h) (Or.inr ⟨by rfl, rfl⟩) (by assumption) ?_) | (refine wpAnyH_take (i := 16) (v := ?_) (by simp only [List.getElem?_toArray, List.getElem?_cons_succ, List.getElem?_cons_zero]; rfl) (by kernel_rfl) (by kernel_rfl) (by kernel_rfl) (by exact fun _ _ _ h => h) (Or.inl ⟨by rfl, ?_⟩) (by assumption) ?_; rotate_left; · (intro w hSw; (try dsimp only at hSw); go_simp; (try with_reducible rfl)))
        try simp only [Act.put, List.setIfInBounds_toArray, List.set_cons_zero, List.set_cons_succ]
        first | (refine wpAnyH_take (i := 17) (v := undef) (by simp only [List.getElem?_toArray, List.getElem?_cons_succ, List.getElem?_cons_zero]; rfl) (by kernel_rfl) (by kernel_rfl) (by kernel_rfl) (by exact fun _ _ _ h => h) (Or.inr ⟨by rfl, rfl⟩) (by assumption) ?_) | (refine wpAnyH_take (i := 17) (v := ?_) (by simp only [List.getElem?_toArray, List.getElem?_cons_succ, List.getElem?_cons_zero]; rfl) (by kernel_rfl) (by kernel_rfl) (by kernel_rfl) (by exact fun _ _ _ h => h) (Or.inl ⟨by rfl, ?_⟩) (by assumption) ?_; rotate_left; · (intro w hSw; (try dsimp only at hSw); go_simp; (try with_reducible rfl)))
        try simp only [Act.put, List.setIfInBounds_toArray, List.set_cons_zero, List.set_cons_succ]
        first | (refine wpAnyH_take (i := 18) (v := undef) (by simp only [List.getElem?_toArray, List.getElem?_cons_succ, List.getElem?_cons_zero]; rfl) (by kernel_rfl) (by kernel_rfl) (by kernel_rfl) (by exact fun _ _ _ h => h) (Or.inr ⟨by rfl, rfl⟩) (by assumption) ?_) | (refine wpAnyH_take (i := 18) (v := ?_) (by simp only [List.getElem?_toArray, List.getElem?_cons_succ, List.getElem?_cons_zero]; rfl) (by kernel_rfl) (by kernel_rfl) (by kernel_rfl) (by exact fun _ _ _ h => h) (Or.inl ⟨by rfl, ?_⟩) (by assumption) ?_; rotate_left; · (intro w hSw; (try dsimp only at hSw); go_simp; (try with_reducible rfl)))
        try simp only [Act.put, List.setIfInBounds_toArray, List.set_cons_zero, List.set_cons_succ]
        first | (refine wpAnyH_take (i := 19) (v := undef) (by simp only [List.getElem?_toArray, List.getElem?_cons_succ, List.getElem?_cons_zero]; rfl) (by kernel_rfl) (by kernel_rfl) (by kernel_rfl) (by exact fun _ _ _ h => h) (Or.inr ⟨by rfl, rfl⟩) (by assumption) ?_) | (refine wpAnyH_take (i := 19) (v := ?_) (by simp only [List.getElem?_toArray, List.getElem?_cons_succ, List.getElem?_cons_zero]; rfl) (by kernel_rfl) (by kernel_rfl) (by kernel_rfl) (by exact fun _ _ _ h => h) (Or.inl ⟨by rfl, ?_⟩) (by assumption) ?_; rotate_left; · (intro w hSw; (try dsimp only at hSw); go_simp; (try with_reducible rfl)))
        try simp only [Act.put, List.setIfInBounds_toArray, List.set_cons_zero, List.set_cons_succ]
        first | (refine wpAnyH_take (i := 20) (v := undef) (by simp only [List.getElem?_toArray, List.getElem?_cons_succ, List.getElem?_cons_zero]; rfl) (by kernel_rfl) (by kernel_rfl) (by kernel_rfl) (by exact fun _ _ _ h => h) (Or.inr ⟨by rfl, rfl⟩) (by assumption) ?_) | (refine wpAnyH_take (i := 20) (v := ?_) (by simp only [List.getElem?_toArray, List.getElem?_cons_succ, List.getElem?_cons_zero]; rfl) (by kernel_rfl) (by kernel_rfl) (by kernel_rfl) (by exact fun _ _ _ h => h) (Or.inl ⟨by rfl, ?_⟩) (by assumption) ?_; rotate_left; · (intro w hSw; (try dsimp only at hSw); go_simp; (try with_reducible rfl)))
        try simp only [Act.put, List.setIfInBounds_toArray, List.set_cons_zero, List.set_cons_succ]
        first | (refine wpAnyH_take (i := 21) (v := undef) (by simp only [List.getElem?_toArray, List.getElem?_cons_succ, List.getElem?_cons_zero]; rfl) (by kernel_rfl) (by kernel_rfl) (by kernel_rfl) (by exact fun _ _ _ h => h) (Or.inr ⟨by rfl, rfl⟩) (by assumption) ?_) | (refine wpAnyH_take (i := 21) (v := ?_) (by simp only [List.getElem?_toArray, List.getElem?_cons_succ, List.getElem?_cons_zero]; rfl) (by kernel_rfl) (by kernel_rfl) (by kernel_rfl) (by exact fun _ _ _ h => h) (Or.inl ⟨by rfl, ?_⟩) (by assumption) ?_; rotate_left; · (intro w hSw; (try dsimp only at hSw); go_simp; (try with_reducible rfl)))
        try simp only [Act.put, List.setIfInBounds_toArray, List.set_cons_zero, List.set_cons_succ]
        first | (refine wpAnyH_take (i := 22) (v := undef) (by simp only [List.getElem?_toArray, List.getElem?_cons_succ, List.getElem?_cons_zero]; rfl) (by kernel_rfl) (by kernel_rfl) (by kernel_rfl) (by exact fun _ _ _ h => h) (Or.inr ⟨by rfl, rfl⟩) (by assumption) ?_) | (refine wpAnyH_take (i := 22) (v := ?_) (by simp only [List.getElem?_toArray, List.getElem?_cons_succ, List.getElem?_cons_zero]; rfl) (by kernel_rfl) (by kernel_rfl) (by kernel_rfl) (by exact fun _ _ _ h => h) (Or.inl ⟨by rfl, ?_⟩) (by assumption) ?_; rotate_left; · (intro w hSw; (try dsimp only at hSw); go_simp; (try with_reducible rfl)))
        try simp only [Act.put, List.setIfInBounds_toArray, List.set_cons_zero, List.set_cons_succ]
        first | (refine wpAnyH_take (i := 23) (v := undef) (by simp only [List.getElem?_toArray, List.getElem?_cons_succ, List.getElem?_cons_zero]; rfl) (by kernel_rfl) (by kernel_rfl) (by kernel_rfl) (by exact fun _ _ _ h => h) (Or.inr ⟨by rfl, rfl⟩) (by assumption) ?_) | (refine wpAnyH_take (i := 23) (v := ?_) (by simp only [List.getElem?_toArray, List.getElem?_cons_succ, List.getElem?_cons_zero]; rfl) (by kernel_rfl) (by kernel_rfl) (by kernel_rfl) (by exact fun _ _ _ h => h) (Or.inl ⟨by rfl, ?_⟩) (by assumption) ?_; rotate_left; · (intro w hSw; (try dsimp only at hSw); go_simp; (try with_reducible rfl)))
        try simp only [Act.put, List.setIfInBounds_toArray, List.set_cons_zero, List.set_cons_succ]
        first | (refine wpAnyH_take (i := 24) (v := undef) (by simp only [List.getElem?_toArray, List.getElem?_cons_succ, List.getElem?_cons_zero]; rfl) (by kernel_rfl) (by kernel_rfl) (by kernel_rfl) (by exact fun _ _ _ h => h) (Or.inr ⟨by rfl, rfl⟩) (by assumption) ?_) | (refine wpAnyH_take (i := 24) (v := ?_) (by simp only [List.getElem?_toArray, List.getElem?_cons_succ, List.getElem?_cons_zero]; rfl) (by kernel_rfl) (by kernel_rfl) (by kernel_rfl) (by exact fun _ _ _ h => h) (Or.inl ⟨by rfl, ?_⟩) (by assumption) ?_; rotate_left; · (intro w hSw; (try dsimp only at hSw); go_simp; (try with_reducible rfl)))
        try simp only [Act.put, List.setIfInBounds_toArray, List.set_cons_zero, List.set_cons_succ]
        first | (refine wpAnyH_take (i := 25) (v := undef) (by simp only [List.getElem?_toArray, List.getElem?_cons_succ, List.getElem?_cons_zero]; rfl) (by kernel_rfl) (by kernel_rfl) (by kernel_rfl) (by exact fun _ _ _ h => h) (Or.inr ⟨by rfl, rfl⟩) (by assumption) ?_) | (refine wpAnyH_take (i := 25) (v := ?_) (by simp only [List.getElem?_toArray, List.getElem?_cons_succ, List.getElem?_cons_zero]; rfl) (by kernel_rfl) (by kernel_rfl) (by kernel_rfl) (by exact fun _ _ _ h => h) (Or.inl ⟨by rfl, ?_⟩) (by assumption) ?_; rotate_left; · (intro w hSw; (try dsimp only at hSw); go_simp; (try with_reducible rfl)))
        try simp only [Act.put, List.setIfInBounds_toArray, List.set_cons_zero, List.set_cons_succ]
        first | (refine wpAnyH_take (i := 26) (v := undef) (by simp only [List.getElem?_toArray, List.getElem?_cons_succ, List.getElem?_cons_zero]; rfl) (by kernel_rfl) (by kernel_rfl) (by kernel_rfl) (by exact fun _ _ _ h => h) (Or.inr ⟨by rfl, rfl⟩) (by assumption) ?_) | (refine wpAnyH_take (i := 26) (v := ?_) (by simp only [List.getElem?_toArray, List.getElem?_cons_succ, List.getElem?_cons_zero]; rfl) (by kernel_rfl) (by kernel_rfl) (by kernel_rfl) (by exact fun _ _ _ h => h) (Or.inl ⟨by rfl, ?_⟩) (by assumption) ?_; rotate_left; · (intro w hSw; (try dsimp only at hSw); go_simp; (try with_reducible rfl)))
        try simp only [Act.put, List.setIfInBounds_toArray, List.set_cons_zero, List.set_cons_succ]
        first | (refine wpAnyH_take (i := 27) (v := undef) (by simp only [List.getElem?_toArray, List.getElem?_cons_succ, List.getElem?_cons_zero]; rfl) (by kernel_rfl) (by kernel_rfl) (by kernel_rfl) (by exact fun _ _ _ h => h) (Or.inr ⟨by rfl, rfl⟩) (by assumption) ?_) | (refine wpAnyH_take (i := 27) (v := ?_) (by simp only [List.getElem?_toArray, List.getElem?_cons_succ, List.getElem?_cons_zero]; rfl) (by kernel_rfl) (by kernel_rfl) (by kernel_rfl) (by exact fun _ _ _ h => h) (Or.inl ⟨by rfl, ?_⟩) (by assumption) ?_; rotate_left; · (intro w hSw; (try dsimp only at hSw); go_simp; (try with_reducible rfl)))
        try simp only [Act.put, List.setIfInBounds_toArray, List.set_cons_zero, List.set_cons_succ]
        first | (refine wpAnyH_take (i := 28) (v := undef) (by simp only [List.getElem?_toArray, List.getElem?_cons_succ, List.getElem?_cons_zero]; rfl) (by kernel_rfl) (by kernel_rfl) (by kernel_rfl) (by exact fun _ _ _ h => h) (Or.inr ⟨by rfl, rfl⟩) (by assumption) ?_) | (refine wpAnyH_take (i := 28) (v := ?_) (by simp only [List.getElem?_toArray, List.getElem?_cons_succ, List.getElem?_cons_zero]; rfl) (by kernel_rfl) (by kernel_rfl) (by kernel_rfl) (by exact fun _ _ _ h => h) (Or.inl ⟨by rfl, ?_⟩) (by assumption) ?_; rotate_left; · (intro w hSw; (try dsimp only at hSw); go_simp; (try with_reducible rfl)))
        try simp only [Act.put, List.setIfInBounds_toArray, List.set_cons_zero, List.set_cons_succ]
        first | (refine wpAnyH_take (i := 29) (v := undef) (by simp only [List.getElem?_toArray, List.getElem?_cons_succ, List.getElem?_cons_zero]; rfl) (by kernel_rfl) (by kernel_rfl) (by kernel_rfl) (by exact fun _ _ _ h => h) (Or.inr ⟨by rfl, rfl⟩) (by assumption) ?_) | (refine wpAnyH_take (i := 29) (v := ?_) (by simp only [List.getElem?_toArray, List.getElem?_cons_succ, List.getElem?_cons_zero]; rfl) (by kernel_rfl) (by kernel_rfl) (by kernel_rfl) (by exact fun _ _ _ h => h) (Or.inl ⟨by rfl, ?_⟩) (by assumption) ?_; rotate_left; · (intro w hSw; (try dsimp only at hSw); go_simp; (try with_reducible rfl)))
        try simp only [Act.put, List.setIfInBounds_toArray, List.set_cons_zero, List.set_cons_succ]
        refine wpAnyH_ready (rs := [30]) (by kernel_rfl) (by simp) ?_
        refine AllReadyH.cons rfl (fun K hK => ?_) AllReadyH.nil
        go_simp
        refine (HC.out _).mono ?_
        rintro e w2 ⟨rfl, f2⟩
        have F2 := Lib.hid (FR.out.drew.then f2)
        clear f2
        go_wp2_with (fail)
        refine hK.out _ _ ⟨HE.out _ F2.out, HE1.out _ F2.out, HE2.out _ F2.out, HE3.out _ F2.out⟩ (fun hHeld2 => ?_)
        clear hK K
        try simp only [Act.put, List.setIfInBounds_toArray, List.set_cons_zero, List.set_cons_succ]
        first | (refine wpAnyH_take (i := 31) (v := undef) (by simp only [List.getElem?_toArray, List.getElem?_cons_succ, List.getElem?_cons_zero]; rfl) (by kernel_rfl) (by kernel_rfl) (by kernel_rfl) (by exact fun _ _ _ h => h) (Or.inr ⟨by rfl, rfl⟩) (by assumption) ?_) | (refine wpAnyH_take (i := 31) (v := ?_) (by simp only [List.getElem?_toArray, List.getElem?_cons_succ, List.getElem?_cons_zero]; rfl) (by kernel_rfl) (by kernel_rfl) (by kernel_rfl) (by exact fun _ _ _ h => h) (Or.inl ⟨by rfl, ?_⟩) (by assumption) ?_; rotate_left; · (intro w hSw; (try dsimp only at hSw); go_simp; (try with_reducible rfl)))
        try simp only [Act.put, List.setIfInBounds_toArray, List.set_cons_zero, List.set_cons_succ]
        first | (refine wpAnyH_take (i := 32) (v := undef) (by simp only [List.getElem?_toArray, List.getElem?_cons_succ, List.getElem?_cons_zero]; rfl) (by kernel_rfl) (by kernel_rfl) (by kernel_rfl) (by exact fun _ _ _ h => h) (Or.inr ⟨by rfl, rfl⟩) (by assumption) ?_) | (refine wpAnyH_take (i := 32) (v := ?_) (by simp only [List.getElem?_toArray, List.getElem?_cons_succ, List.getElem?_cons_zero]; rfl) (by kernel_rfl) (by kernel_rfl) (by kernel_rfl) (by exact fun _ _ _ h => h) (Or.inl ⟨by rfl, ?_⟩) (by assumption) ?_; rotate_left; · (intro w hSw; (try dsimp only at hSw); go_simp; (try with_reducible rfl)))
        try simp only [Act.put, List.setIfInBounds_toArray, List.set_cons_zero, List.set_cons_succ]
        first | (refine wpAnyH_take (i := 33) (v := undef) (by simp only [List.getElem?_toArray, List.getElem?_cons_succ, List.getElem?_cons_zero]; rfl) (by kernel_rfl) (by kernel_rfl) (by kernel_rfl) (by exact fun _ _ _ h => h) (Or.inr ⟨by rfl, rfl⟩) (by assumption) ?_) | (refine wpAnyH_take (i := 33) (v := ?_) (by simp only [List.getElem?_toArray, List.getElem?_cons_succ, List.getElem?_cons_zero]; rfl) (by kernel_rfl) (by kernel_rfl) (by kernel_rfl) (by exact fun _ _ _ h => h) (Or.inl ⟨by rfl, ?_⟩) (by assumption) ?_; rotate_left; · (intro w hSw; (try dsimp only at hSw); go_simp; (try with_reducible rfl)))
        try simp only [Act.put, List.setIfInBounds_toArray, List.set_cons_zero, List.set_cons_succ]
        first | (refine wpAnyH_take (i := 34) (v := undef) (by simp only [List.getElem?_toArray, List.getElem?_cons_succ, List.getElem?_cons_zero]; rfl) (by kernel_rfl) (by kernel_rfl) (by kernel_rfl) (by exact fun _ _ _ h => h) (Or.inr ⟨by rfl, rfl⟩) (by assumption) ?_) | (refine wpAnyH_take (i := 34) (v := ?_) (by simp only [List.getElem?_toArray, List.getElem?_cons_succ, List.getElem?_cons_zero]; rfl) (by kernel_rfl) (by kernel_rfl) (by kernel_rfl) (by exact fun _ _ _ h => h) (Or.inl ⟨by rfl, ?_⟩) (by assumption) ?_; rotate_left; · (intro w hSw; (try dsimp only at hSw); go_simp; (try with_reducible rfl)))
        try simp only [Act.put, List.setIfInBounds_toArray, List.set_cons_zero, List.set_cons_succ]
        refine wpAnyH_done (by kernel_rfl) ?_ _
        go_wp2
        go_roundw
        case rel => exact ⟨rfl, k + 1, by omega, by go_num, F2.out⟩
        case measure => simp [intOf]; omega
      · obtain rfl : k = ms.length + 12 := by omega
        have hi2 : ¬ ((ms.length : Int) + 12 < (ms.length : Int) + 12) := by omega
        clear hlt hlt2 hk H1 H2
        go_wp2
        go_ret
        exact ⟨rfl, FR.out⟩

end Go.Proofs.YtbgpgaekckfjlaaDoor
