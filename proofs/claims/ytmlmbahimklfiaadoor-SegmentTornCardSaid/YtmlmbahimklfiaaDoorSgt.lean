/-
  Sgt: small deeds, rows of them, what is told of bytes.
-/
import Derived.Test.YtmlmbahimklfiaaDoorSge
import Derived.Test.YtmlmbahimklfiaaDoorSgd
namespace Go.Proofs.YtmlmbahimklfiaaDoor
open Go.RowKit

/-- A small deed of a zxid. -/
def syncF (z : Int) : Fd := ⟨z, 6, 0, 0, 0, 0, [], [], 0, 0, 0, 0, 0, (0, [])⟩
def syncD (z : Int) : De := (syncF z, [])
/-- Zxids of such. -/
def ZOk (z : Int) : Prop := 1 ≤ z ∧ z ≤ 4611686018427387904
theorem syncD_ok {z : Int} (h : ZOk z) : RightD (syncD z) := by
  obtain ⟨h1, h2⟩ := h
  refine ⟨?_, ?_, fun q hq => absurd hq (by simp [syncD])⟩
  · refine ⟨h1, ⟨by show 0 ≤ z; omega, by show z / 4294967296 ≤ _; omega⟩, Int.le_refl _, Int.le_refl _, Int.le_refl _, Int.le_refl _, ?_, fun h => absurd h (by simp [syncD, syncF]), fun h => absurd h (by simp [syncD, syncF]), fun h => absurd h (by simp [syncD, syncF])⟩
    exact .inr (.inr (.inr (.inr (.inr (.inl ⟨rfl, rfl, rfl, rfl, rfl, rfl, rfl, rfl, rfl, rfl, rfl⟩)))))
  · refine ⟨by show _ ≤ z ∧ z ≤ _; omega, ?_, ?_, ?_, ?_, ?_, ?_, ?_, ?_, ?_, ?_, ?_, ?_, ?_, ?_⟩ <;> simp [syncD, syncF]
theorem syncD_fine {z : Int} (h : ZOk z) : Fine (syncF z) [] := ⟨(syncD_ok h).2.1, fun q hq => absurd hq (by simp), by simp⟩
theorem syncD_is (w : World) (z : Int) : IsD w (dcells (syncF z) pl0 0) (syncF z) [] := ⟨pl0, 0, 0, rfl, Nat.zero_le _, Rd.nil _ _ _ _, RdM.nil' _ _ _ _, RdP.nil _ _ _ _⟩
/-- Memory at A reads as these numbers. -/
def RdZ (w : World) (A : Option Addr) (l : List Int) : Prop := 0 < l.length → ∃ g o, A = some ⟨g, o, none⟩ ∧ g < w.heap.size ∧ ∀ i, i < l.length → w.cell? ⟨g, o + i, none⟩ = some (.int .i64 (l.getD i 0))
theorem RdZ.fr {w w' : World} {A : Option Addr} {l : List Int} (h : RdZ w A l) (f : Fr NoB w w') : RdZ w' A l := fun hl => by
  obtain ⟨g, o, e, h1, h2⟩ := h hl
  exact ⟨g, o, e, Nat.lt_of_lt_of_le h1 f.size, fun i hi => (f.cell (p := ⟨g, o + i, none⟩) h1 (fun x => x)).trans (h2 i hi)⟩
theorem RdZ.nil (w : World) (A : Option Addr) : RdZ w A [] := fun h => absurd h (by simp)
theorem RdZ.new (w : World) (l : List Int) (t : TypeId) : RdZ (w.alloc (.cells (l.map (Value.int .i64)).toArray t)) (some ⟨w.heap.size, 0, none⟩) l := fun hl => by
  refine ⟨_, 0, rfl, by simp, fun i hi => ?_⟩
  have h := Lib.cell_of_heap (heap_alloc_new w (.cells (l.map (Value.int .i64)).toArray t)) (0 + i)
  rw [h]
  simp [List.getD, hi]
theorem RdZ.own {w : World} {base n c : Nat} {A : Option Addr} {l : List Int} (h : w.ownsRow base 3 1 (.slice A n c) l.length (nvs l)) : RdZ w A l := fun hl => by
  obtain ⟨g, cap, hv, hb, hlt⟩ := h.form hl
  have hP : A = some ⟨g, 0, none⟩ := by injection hv
  refine ⟨g, 0, hP, hlt, fun i hi => ?_⟩
  have := h.cells (g := g) (by rw [hP]; rfl) i (.int .i64 (l.getD i 0)) (by simp [nvs, List.getD, hi])
  rwa [Lib.addr_add] at this

set_option maxHeartbeats 1000000 in
theorem sync_calls (z : Int) (w : World) :
    Calls Tryd.prog 17 #[.int .i64 z] w fun e w' => e = .returned (.agg (dcells (syncF z) pl0 0)) ∧ Fr NoB w w' := by
  go_enter Tryd.func17, Tryd.ntmps17
  go_wp2
  refine bodyPost_ret (v := .agg (dcells (syncF z) pl0 0)) (results_cell_row (fn := Tryd.f17) (p := 2) (ty := 35) (by kernel_rfl) _ _ w.heap.size 35 _ _ _ rfl (heap_alloc_new w _) Tryd.underlying35 rfl (by kernel_rfl)) rfl ?_
  exact ⟨rfl, (Fr.refl NoB w).alloc _⟩

theorem segB_snoc (l : List De) (d : De) : segB (l ++ [d]) = segB l ++ frameB (deB d) := by simp [segB]

set_option maxRecDepth 8000 in
set_option maxHeartbeats 3200000 in
theorem rows_calls (A : Option Addr) (l : List Int) (c : Nat) (w : World) (h : RdZ w A l) (hl : l.length ≤ 100) (hz : ∀ z ∈ l, ZOk z) (hH : Has w) :
    Calls Tryd.prog 6 #[.slice A l.length c] w fun e w' => ∃ v, e = .returned v ∧ w'.ownsRow w.heap.size 5 1 v (segB (l.map syncD)).length (bv (segB (l.map syncD))) ∧ Fr NoB w w' := by
  obtain ⟨i0, hi0, hz0, hz1, hz2⟩ := info_parts info_byte
  have HR := Lib.hid h
  have HZ := Lib.hid hz
  have HW := Lib.hid hH
  clear h hz hH
  go_enter Tryd.func6, Tryd.ntmps6
  go_wp2
  go_loopw [3, 4] (fun v i W => ∃ k : Nat, k ≤ l.length ∧ i = .int .i64 (k : Int) ∧ Fr NoB w W ∧ W.ownsRow w.heap.size 5 1 v (segB ((l.take k).map syncD)).length (bv (segB ((l.take k).map syncD))) ∧ (segB ((l.take k).map syncD)).length ≤ k * 700008) (fun _ i _ => l.length - (intOf i).toNat)
  case atStart => exact ⟨0, Nat.zero_le _, rfl, Fr.refl _ _, World.ownsRow_nil _ _ _ _, Nat.zero_le _⟩
  case round =>
    obtain ⟨k, hk, rfl, hf, hown, hlen⟩ := hrel
    have F := Lib.hid hf
    clear hf
    by_cases hlt : k < l.length
    · have hki : (k : Int) < (l.length : Int) := by omega
      have hk0 : (0 : Int) ≤ (k : Int) := by omega
      obtain ⟨g, o, rfl, -, hc⟩ := HR.out (by omega)
      have hck := (F.out.cell (p := ⟨g, o + k, none⟩) (by simp only; obtain ⟨g2, o2, e, hg, -⟩ := HR.out (by omega); cases e; exact hg) (fun x => x)).trans (hc k hlt)
      have hzk := HZ.out l[k] (List.getElem_mem hlt)
      have e1 : l.getD k 0 = l[k] := by simp [List.getD, hlt]
      rw [e1] at hck
      have hstep : segB ((l.take (k + 1)).map syncD) = segB ((l.take k).map syncD) ++ frameB (deB (syncD l[k])) := by
        rw [List.take_succ_eq_append_getElem hlt, List.map_append, List.map_cons, List.map_nil, segB_snoc]
      have HS := Lib.hid hstep
      clear hc e1 hstep
      generalize l[k] = z at hck hzk HS
      generalize (segB ((l.take k).map syncD)) = B at hown hlen HS
      have hput := fun W (G : Fr NoB wr W) => sput_calls (syncD_is W z) (by simp) (syncD_fine hzk).ok (syncD_fine hzk).wide (HW.out.fr (F.out.then G))
      rw [show putS (syncF z) [] = (frameB (deB (syncD z)), 0) from if_pos (syncD_ok hzk).1] at hput
      have hfl : (frameB (deB (syncD z))).length ≤ 700008 := by rw [frameB_len]; have := (syncD_ok hzk).len; omega
      generalize frameB (deB (syncD z)) = R at hput HS hfl
      have HP := Lib.hid hput
      clear hput hzk
      go_wp2_with (fail)
      refine (sync_calls z _).mono ?_
      rintro e w1 ⟨rfl, f1⟩
      have hown1 := own_keep hown (fun g hg => f1.block g (hown.lt g hg).2 (fun x => x))
      clear hown hck
      obtain ⟨cs, hcs⟩ : ∃ cs, dcells (syncF z) pl0 0 = cs := ⟨_, rfl⟩
      rw [hcs] at HP ⊢
      clear hcs
      go_wp2_with (fail)
      refine (HP.out _ f1).mono ?_
      rintro e w2 ⟨A2, c2, rfl, h1, h2, hr, f2⟩
      have hown2 := own_keep hown1 (fun g hg => f2.block g (hown1.lt g hg).2 (fun x => x))
      clear hown1
      go_wp2_with (at_builtin; refine wpList_append_src _ rfl _ _ 22 rfl w.heap.size 5 i0 (.int .u8 0) 1 1 Tryd.underlying22 hi0 hz0 hz1 hz2 rfl (by decide) _ B.length (bv B) rfl hown2 A2 R.length c2 (bv R) rfl (by simp) hr.srcs (bv_one R) (by unfold maxLen; omega) (by omega) (Nat.le_trans F.out.size (Nat.le_trans f1.size f2.size)) ?_)
      intro v' w3 hA
      have hA1 := hA.own
      have f3 := hA.fr
      clear hA
      go_wp2
      go_roundw
      case rel =>
        refine ⟨k + 1, by omega, by go_num, ?_, ?_, ?_⟩
        · exact ((F.out.then f1).then f2).upE f3 (fun g hg => (hown2.lt g hg).1)
        · rw [HS.out, List.length_append, bv_append]; exact hA1
        · rw [HS.out, List.length_append]; omega
      case measure => simp [intOf]; omega
    · obtain rfl : k = l.length := by omega
      rw [List.take_of_length_le (Nat.le_refl _)] at hown
      clear hlen hlt hk
      go_wp2
      go_ret
      exact ⟨_, rfl, hown, F.out⟩
end Go.Proofs.YtmlmbahimklfiaaDoor
