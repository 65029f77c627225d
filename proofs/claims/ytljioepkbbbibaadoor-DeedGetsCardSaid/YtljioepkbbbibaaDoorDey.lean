/-
  Dey: the statements' own 'awake' of chapter 5: true.
-/
import Derived.Test.YtljioepkbbbibaaDoorDex
namespace Go.Proofs.YtljioepkbbbibaaDoor
open Go.RowKit

/-- The chapter's third example, and its bytes. -/
def smF : Fd := ⟨1, 2, 3, 0, 0, 0, [47, 97], [], 0, 0, 2, 0, 0, (0, [])⟩
def smB : List UInt8 := [2, 2, 6, 0, 0, 0, 4, 47, 97, 4]
theorem sm_ok : smF.Ok := by constructor <;> decide
theorem sm_right : Right smF [] := by decide +kernel
theorem sm_no : ¬ Right (bareF 0) [] := by decide +kernel
theorem sm_put : putD smF [] = (smB, 0) := by decide +kernel
theorem sm_get : getD smB = some (smF, []) := by
  have h := getD_front sm_right sm_ok (fun q hq => absurd hq (by simp))
  have e : deedB smF [] = smB := by decide +kernel
  rw [e] at h
  exact h
theorem sm_rdd (w : World) : RdD w 0 0 smF pl0 [] := ⟨Rd.nil _ _ _ _, RdM.nil' _ _ _ _, RdP.nil _ _ _ _⟩
theorem rd_block {w : World} {B : Nat} {cs : Array Value} {t : TypeId} {fr : Nat × Nat} {l : List UInt8} (h : w.heap[B]? = some (.cells cs t fr)) (hc : cs.toList = bv l) : Rd w 0 w.heap.size (some ⟨B, 0, none⟩) l := fun hl => by
  refine ⟨B, 0, rfl, Nat.zero_le _, Lib.lt_of_heap h, fun i hi => ?_⟩
  rw [Nat.zero_add, Lib.cell_of_heap h]
  have := bv_get l i hi
  rw [← hc] at this
  simpa using this

set_option maxRecDepth 8000 in
set_option maxHeartbeats 6400000 in
theorem small_calls (w : World) : Calls Tryd.prog 26 #[] w fun e w' => ∃ B, e = .returned (.tuple #[.agg #[.int .i64 1, .int .u8 2, .int .i64 3, .int .i64 0, .int .i64 0, .int .i64 0, .string ⟨#[47, 97]⟩, .slice none 0 0, .int .i64 0, .int .i64 0, .int .i64 2, .int .i64 0, .int .i64 0, .int .i64 0, .slice none 0 0, .slice none 0 0], .slice (some ⟨B, 0, none⟩) 10 10]) ∧ Rd w' 0 w'.heap.size (some ⟨B, 0, none⟩) smB ∧ Fr NoB w w' := by
  go_enter Tryd.func26, Tryd.ntmps26
  have HB1 := Lib.hid (heap_alloc2_old w (.cells #[.int .i64 0, .int .u8 0, .int .i64 0, .int .i64 0, .int .i64 0, .int .i64 0, .string ⟨#[]⟩, .slice none 0 0, .int .i64 0, .int .i64 0, .int .i64 0, .int .i64 0, .int .i64 0, .int .i64 0, .slice none 0 0, .slice none 0 0] 31) (.cells #[.int .u8 2, .int .u8 2, .int .u8 6, .int .u8 0, .int .u8 0, .int .u8 0, .int .u8 4, .int .u8 47, .int .u8 97, .int .u8 4] 5))
  have HB2 := Lib.hid (heap_alloc2_new w (.cells #[.int .i64 0, .int .u8 0, .int .i64 0, .int .i64 0, .int .i64 0, .int .i64 0, .string ⟨#[]⟩, .slice none 0 0, .int .i64 0, .int .i64 0, .int .i64 0, .int .i64 0, .int .i64 0, .int .i64 0, .slice none 0 0, .slice none 0 0] 31) (.cells #[.int .u8 2, .int .u8 2, .int .u8 6, .int .u8 0, .int .u8 0, .int .u8 0, .int .u8 4, .int .u8 47, .int .u8 97, .int .u8 4] 5))
  go_wp2_with (first | (with_reducible refine held_store (ty := 31) ?_) | fail)
  unfold Held
  refine wpList_store_row rfl 31 _ _ rfl w.heap.size #[.int .i64 1, .int .u8 2, .int .i64 3, .int .i64 0, .int .i64 0, .int .i64 0, .string ⟨#[47, 97]⟩, .slice none 0 0, .int .i64 0, .int .i64 0, .int .i64 2, .int .i64 0, .int .i64 0, .int .i64 0, .slice none 0 0, .slice none 0 0] ?_ ?_ _ _ HB1.out size16 rfl (by simp [Value.oneCell']) ?_
  · rfl
  · rfl
  go_wp2
  refine bodyPost_ret (v := .tuple #[.agg #[.int .i64 1, .int .u8 2, .int .i64 3, .int .i64 0, .int .i64 0, .int .i64 0, .string ⟨#[47, 97]⟩, .slice none 0 0, .int .i64 0, .int .i64 0, .int .i64 2, .int .i64 0, .int .i64 0, .int .i64 0, .slice none 0 0, .slice none 0 0], .slice (some ⟨w.heap.size + 1, 0, none⟩) 10 10]) (results_row_tmp (fn := Tryd.f26) (p := 0) (u := 1) (ty := 31) (by kernel_rfl) _ _ w.heap.size 31 _ _ _ rfl (setRow_heap _ _ _ _ _ _ HB1.out) Tryd.underlying31 rfl (by kernel_rfl)) rfl ?_
  refine ⟨w.heap.size + 1, rfl, ?_, ?_⟩
  · exact rd_block ((setRow_other _ _ _ _ (by omega)).trans HB2.out) rfl
  · exact (((Fr.refl NoB w).alloc _).alloc _).setRow (fun h => absurd h (by simp)) _

theorem sm_hp (W : World) (hH : Has W) : Calls Tryd.prog 10 #[.agg #[.int .i64 1, .int .u8 2, .int .i64 3, .int .i64 0, .int .i64 0, .int .i64 0, .string ⟨#[47, 97]⟩, .slice none 0 0, .int .i64 0, .int .i64 0, .int .i64 2, .int .i64 0, .int .i64 0, .int .i64 0, .slice none 0 0, .slice none 0 0]] W fun e w' => ∃ v, e = .returned (.tuple #[v, .int .i64 0]) ∧ w'.ownsRow W.heap.size 5 1 v 10 (bv smB) ∧ Fr NoB W w' := by
  have hp := dput_calls smF pl0 [] 0 0 W sm_ok (fun q hq => absurd hq (by simp)) (by simp) (sm_rdd W) (Nat.zero_le _) hH
  rw [sm_put] at hp
  exact hp
theorem sm_hr (W : World) (hH : Has W) : Calls Tryd.prog 11 #[.agg #[.int .i64 1, .int .u8 2, .int .i64 3, .int .i64 0, .int .i64 0, .int .i64 0, .string ⟨#[47, 97]⟩, .slice none 0 0, .int .i64 0, .int .i64 0, .int .i64 2, .int .i64 0, .int .i64 0, .int .i64 0, .slice none 0 0, .slice none 0 0]] W fun e w' => e = .returned (.bool true) ∧ Fr NoB W w' := by
  have hr := right_calls smF pl0 [] 0 0 W sm_ok (by simp) (fun q hq => absurd hq (by simp)) (sm_rdd W) (Nat.zero_le _) hH
  rw [decide_eq_true sm_right] at hr
  exact hr
theorem bare0_ok : (bareF 0).Ok := bareF_ok 0
theorem sm_hz (W : World) (hH : Has W) : Calls Tryd.prog 11 #[.agg #[.int .i64 0, .int .u8 0, .int .i64 0, .int .i64 0, .int .i64 0, .int .i64 0, .string ⟨#[]⟩, .slice none 0 0, .int .i64 0, .int .i64 0, .int .i64 0, .int .i64 0, .int .i64 0, .int .i64 0, .slice none 0 0, .slice none 0 0]] W fun e w' => e = .returned (.bool false) ∧ Fr NoB W w' := by
  have hz := right_calls (bareF 0) pl0 [] 0 0 W bare0_ok (by simp) (fun q hq => absurd hq (by simp)) ⟨Rd.nil _ _ _ _, RdM.nil' _ _ _ _, RdP.nil _ _ _ _⟩ (Nat.zero_le _) hH
  rw [decide_eq_false sm_no] at hz
  exact hz
theorem sm_hg (W : World) (A : Option Addr) (hH : Has W) (h : Rd W 0 W.heap.size A smB) : Calls Tryd.prog 12 #[.slice A 10 10] W fun e w' => ∃ pl, e = .returned (.tuple #[dval smF pl 0, .int .i64 0]) ∧ RdD w' W.heap.size w'.heap.size smF pl [] ∧ Fr NoB W w' := by
  refine (dget_calls A smB 10 0 W.heap.size W h (Nat.le_refl _) (by simp [smB]) hH).mono ?_
  rintro e w4 ⟨f, pl, l, zz, rfl, hgg, hgd, f4⟩
  rw [sm_get] at hgg
  rcases hgg with ⟨hgs, rfl⟩ | ⟨hgn, -⟩
  · simp only [Option.some.injEq, Prod.mk.injEq] at hgs
    obtain ⟨rfl, rfl⟩ := hgs
    exact ⟨pl, rfl, hgd.rd, f4⟩
  · cases hgn
theorem sm_hs (W : World) (pl : Pl) (lo hi : Nat) (h : RdD W lo hi smF pl []) (hh : hi ≤ W.heap.size) : Calls Tryd.prog 15 #[dval smF pl 0, .agg #[.int .i64 1, .int .u8 2, .int .i64 3, .int .i64 0, .int .i64 0, .int .i64 0, .string ⟨#[47, 97]⟩, .slice none 0 0, .int .i64 0, .int .i64 0, .int .i64 2, .int .i64 0, .int .i64 0, .int .i64 0, .slice none 0 0, .slice none 0 0]] W fun e w' => e = .returned (.bool true) ∧ Fr NoB W w' :=
  sameD_calls smF pl pl0 [] lo hi 0 0 W sm_ok (fun q hq => absurd hq (by simp)) (by simp) h hh (sm_rdd W) (Nat.zero_le _)
theorem sm_hb (W : World) (A A' : Option Addr) (c lo hi lo' hi' : Nat) (h : Rd W lo hi A smB) (h' : Rd W lo' hi' A' smB) : Calls Tryd.prog 16 #[.slice A 10 c, .slice A' 10 10] W fun e w' => e = .returned (.bool true) ∧ ∃ n, w' = W.drewN n := by
  have hb := same_calls A A' smB smB c 10 lo hi lo' hi' W h h' (by simp [smB]) (by simp [smB])
  rw [show (smB == smB) = true by simp] at hb
  exact hb
theorem sm_hm (W : World) : Calls Tryd.prog 17 #[.int .i64 1, .int .i64 2] W fun r w' => r = .returned (.int .i64 4294967298) ∧ w' = W := by
  have hm := make_calls 1 2 W (by omega) (by omega)
  rw [show mkZ 1 2 = 4294967298 by unfold mkZ; rw [if_neg (by omega)]; omega] at hm
  exact hm

set_option maxRecDepth 8000 in
set_option maxHeartbeats 6400000 in
theorem awake_calls (w : World) (hH : Has w) : Calls Tryd.prog 8 #[] w fun e w' => e = .returned (.bool true) ∧ Fr NoB w w' := by
  have HP := Lib.hid (fun W (F : Fr NoB w W) => sm_hp W (hH.fr F))
  have HR := Lib.hid (fun W (F : Fr NoB w W) => sm_hr W (hH.fr F))
  have HZ := Lib.hid (fun W (F : Fr NoB w W) => sm_hz W (hH.fr F))
  have HG := Lib.hid (fun W (F : Fr NoB w W) A h => sm_hg W A (hH.fr F) h)
  have HS := Lib.hid sm_hs
  have HBY := Lib.hid sm_hb
  have HMK := Lib.hid sm_hm
  clear hH
  go_enter Tryd.func8, Tryd.ntmps8
  go_wp2_with (fail)
  refine (small_calls w).mono ?_
  rintro e w1 ⟨B, rfl, r1, f1⟩
  have F1 := Lib.hid f1
  have R1 := Lib.hid r1
  clear f1 r1
  have HDA := Lib.hid (heap_alloc_new w1 (.cells #[.int .i64 1, .int .u8 2, .int .i64 3, .int .i64 0, .int .i64 0, .int .i64 0, .string ⟨#[47, 97]⟩, .slice none 0 0, .int .i64 0, .int .i64 0, .int .i64 2, .int .i64 0, .int .i64 0, .int .i64 0, .slice none 0 0, .slice none 0 0] 31))
  go_wp2_with (first | (refine wpList_load_row rfl 31 _ rfl w1.heap.size rfl _ _ _ _ HDA.out Tryd.underlying31 rfl size16 ?_) | fail)
  clear HDA
  obtain ⟨DV, hDV⟩ : ∃ DV, Value.agg #[.int .i64 1, .int .u8 2, .int .i64 3, .int .i64 0, .int .i64 0, .int .i64 0, .string ⟨#[47, 97]⟩, .slice none 0 0, .int .i64 0, .int .i64 0, .int .i64 2, .int .i64 0, .int .i64 0, .int .i64 0, .slice none 0 0, .slice none 0 0] = DV := ⟨_, rfl⟩
  obtain ⟨ZV, hZV⟩ : ∃ ZV, Value.agg #[.int .i64 0, .int .u8 0, .int .i64 0, .int .i64 0, .int .i64 0, .int .i64 0, .string ⟨#[]⟩, .slice none 0 0, .int .i64 0, .int .i64 0, .int .i64 0, .int .i64 0, .int .i64 0, .int .i64 0, .slice none 0 0, .slice none 0 0] = ZV := ⟨_, rfl⟩
  rw [hDV] at HP HR HS ⊢
  rw [hZV] at HZ
  have HDV := Lib.hid hDV
  have HZV := Lib.hid hZV
  clear hDV hZV
  obtain ⟨D, hDD⟩ : ∃ D, w1.heap.size = D := ⟨_, rfl⟩
  have HDB := Lib.hid (heap_alloc_new w1 (.cells #[.int .i64 1, .int .u8 2, .int .i64 3, .int .i64 0, .int .i64 0, .int .i64 0, .string ⟨#[47, 97]⟩, .slice none 0 0, .int .i64 0, .int .i64 0, .int .i64 2, .int .i64 0, .int .i64 0, .int .i64 0, .slice none 0 0, .slice none 0 0] 31))
  have F1b := Lib.hid (F1.out.alloc (.cells #[.int .i64 1, .int .u8 2, .int .i64 3, .int .i64 0, .int .i64 0, .int .i64 0, .string ⟨#[47, 97]⟩, .slice none 0 0, .int .i64 0, .int .i64 0, .int .i64 2, .int .i64 0, .int .i64 0, .int .i64 0, .slice none 0 0, .slice none 0 0] 31))
  have R1b := Lib.hid (R1.out.step ((Fr.refl NoB w1).alloc (.cells #[.int .i64 1, .int .u8 2, .int .i64 3, .int .i64 0, .int .i64 0, .int .i64 0, .string ⟨#[47, 97]⟩, .slice none 0 0, .int .i64 0, .int .i64 0, .int .i64 2, .int .i64 0, .int .i64 0, .int .i64 0, .slice none 0 0, .slice none 0 0] 31)))
  generalize w1.alloc (.cells #[.int .i64 1, .int .u8 2, .int .i64 3, .int .i64 0, .int .i64 0, .int .i64 0, .string ⟨#[47, 97]⟩, .slice none 0 0, .int .i64 0, .int .i64 0, .int .i64 2, .int .i64 0, .int .i64 0, .int .i64 0, .slice none 0 0, .slice none 0 0] 31) = w2 at *
  rw [hDD] at HDB ⊢
  clear hDD F1 R1
  refine (HP.out w2 F1b.out).mono ?_
  rintro e w3 ⟨v, rfl, o3, f3⟩
  obtain ⟨PA, pc, rfl, -, -⟩ := own_form o3
  have HPR := Lib.hid ((own_rd o3).wide (Nat.zero_le _) (Nat.le_refl _))
  have F3 := Lib.hid (F1b.out.then f3)
  have R3 := Lib.hid (R1b.out.step f3)
  have HD3 := Lib.hid (f3.at_ HDB.out (fun x => x))
  clear o3 f3 F1b R1b HDB HP
  go_wp2_with (fail)
  refine (HG.out w3 F3.out _ R3.out).mono ?_
  rintro e w4 ⟨pl, rfl, hgd, f4⟩
  have F4 := Lib.hid (F3.out.then f4)
  have R4 := Lib.hid (R3.out.step f4)
  have HP4 := Lib.hid (HPR.out.step f4)
  have HD4 := Lib.hid (f4.at_ HD3.out (fun x => x))
  have HRD4 := Lib.hid hgd
  clear f4 F3 R3 HPR HD3 hgd HG
  obtain ⟨XA, xc, XB, xd, XP, xe⟩ := pl
  simp only [dval, dcells, smF, List.length_nil] at HRD4 ⊢
  have HX := Lib.hid (heap_alloc_new w4 (.cells #[.int .i64 1, .int .u8 2, .int .i64 3, .int .i64 0, .int .i64 0, .int .i64 0, .string ⟨#[47, 97]⟩, .slice XA 0 xc, .int .i64 0, .int .i64 0, .int .i64 2, .int .i64 0, .int .i64 0, .int .i64 0, .slice XB 0 xd, .slice XP 0 xe] 31))
  have F5 := Lib.hid ((Fr.refl NoB w4).alloc (.cells #[.int .i64 1, .int .u8 2, .int .i64 3, .int .i64 0, .int .i64 0, .int .i64 0, .string ⟨#[47, 97]⟩, .slice XA 0 xc, .int .i64 0, .int .i64 0, .int .i64 2, .int .i64 0, .int .i64 0, .int .i64 0, .slice XB 0 xd, .slice XP 0 xe] 31))
  have HD5 := Lib.hid (F5.out.at_ HD4.out (fun x => x))
  go_wp2_with (first | (refine wpList_load_row rfl 31 _ rfl D rfl _ _ _ _ HD5.out Tryd.underlying31 rfl size16 ?_) | fail)
  obtain ⟨XV, hXV⟩ : ∃ XV, Value.agg #[.int .i64 1, .int .u8 2, .int .i64 3, .int .i64 0, .int .i64 0, .int .i64 0, .string ⟨#[47, 97]⟩, .slice XA 0 xc, .int .i64 0, .int .i64 0, .int .i64 2, .int .i64 0, .int .i64 0, .int .i64 0, .slice XB 0 xd, .slice XP 0 xe] = XV := ⟨_, rfl⟩
  rw [hXV]
  rw [HDV.out]
  have HXV := Lib.hid hXV
  clear hXV
  obtain ⟨X, hXX⟩ : ∃ X, w4.heap.size = X := ⟨_, rfl⟩
  have F4b := Lib.hid (F4.out.then F5.out)
  have R5 := Lib.hid (R4.out.step F5.out)
  have HP5 := Lib.hid (HP4.out.step F5.out)
  have HRD5 := Lib.hid (HRD4.out.fr F5.out (Nat.le_refl _) (fun _ _ _ x => x))
  have HS5 := Lib.hid F5.out.size
  generalize w4.alloc (.cells #[.int .i64 1, .int .u8 2, .int .i64 3, .int .i64 0, .int .i64 0, .int .i64 0, .string ⟨#[47, 97]⟩, .slice XA 0 xc, .int .i64 0, .int .i64 0, .int .i64 2, .int .i64 0, .int .i64 0, .int .i64 0, .slice XB 0 xd, .slice XP 0 xe] 31) = w5 at *
  rw [hXX] at HX ⊢
  clear hXX F4 R4 HP4 HD4
  refine (HR.out w5 F4b.out).mono ?_
  rintro e w6 ⟨rfl, f6⟩
  go_wp2_with (fail)
  rw [HZV.out]
  refine (HZ.out w6 (F4b.out.then f6)).mono ?_
  rintro e w7 ⟨rfl, f7⟩
  have G7 := Lib.hid (f6.then f7)
  have G7b := Lib.hid (F4b.out.then (f6.then f7))
  clear f6 f7 HR HZ F4b
  go_wp2_with (fail)
  refine (HBY.out w7 _ _ _ _ _ _ _ (HP5.out.step G7.out) (R5.out.step G7.out)).mono ?_
  rintro e w8 ⟨rfl, n8, hw8⟩
  have G8 : Hid (Fr NoB w5 w8) := by rw [hw8]; exact G7.out.drewN n8
  have G8b : Hid (Fr NoB w w8) := by rw [hw8]; exact G7b.out.drewN n8
  clear hw8 G7 G7b HBY
  have HSS := HS.out w8 ⟨XA, xc, XB, xd, XP, xe⟩ _ _ (HRD5.out.fr G8.out HS5.out (fun _ _ _ x => x)) (Nat.le_trans HS5.out G8.out.size)
  have HX8 := G8.out.at_ HX.out (fun x => x)
  have HD8 := G8.out.at_ HD5.out (fun x => x)
  simp only [dval, dcells, smF, List.length_nil] at HSS
  rw [HXV.out] at HSS
  have HSH := Lib.hid HSS
  clear HSS HS HRD5 HX HD5
  have qx0 := (cells_of HX8 0).1
  have qx1 := (cells_of HX8 1).1
  have qx2 := (cells_of HX8 2).1
  have qx3 := (cells_of HX8 3).1
  have qx4 := (cells_of HX8 4).1
  have qx5 := (cells_of HX8 5).1
  have qx6 := (cells_of HX8 6).1
  have qx7 := (cells_of HX8 7).1
  have qx8 := (cells_of HX8 8).1
  have qx9 := (cells_of HX8 9).1
  have qx10 := (cells_of HX8 10).1
  have qx11 := (cells_of HX8 11).1
  have qx12 := (cells_of HX8 12).1
  have qx13 := (cells_of HX8 13).1
  have qx14 := (cells_of HX8 14).1
  have qx15 := (cells_of HX8 15).1
  simp only [List.getElem?_toArray, List.getElem?_cons_zero, List.getElem?_cons_succ] at qx0 qx1 qx2 qx3 qx4 qx5 qx6 qx7 qx8 qx9 qx10 qx11 qx12 qx13 qx14 qx15
  have qd0 := (cells_of HD8 0).1
  have qd1 := (cells_of HD8 1).1
  have qd2 := (cells_of HD8 2).1
  have qd3 := (cells_of HD8 3).1
  have qd4 := (cells_of HD8 4).1
  have qd5 := (cells_of HD8 5).1
  have qd6 := (cells_of HD8 6).1
  have qd7 := (cells_of HD8 7).1
  have qd8 := (cells_of HD8 8).1
  have qd9 := (cells_of HD8 9).1
  have qd10 := (cells_of HD8 10).1
  have qd11 := (cells_of HD8 11).1
  have qd12 := (cells_of HD8 12).1
  have qd13 := (cells_of HD8 13).1
  have qd14 := (cells_of HD8 14).1
  have qd15 := (cells_of HD8 15).1
  simp only [List.getElem?_toArray, List.getElem?_cons_zero, List.getElem?_cons_succ] at qd0 qd1 qd2 qd3 qd4 qd5 qd6 qd7 qd8 qd9 qd10 qd11 qd12 qd13 qd14 qd15
  clear HX8 HD8
  go_wp2_with (fail)
  clear qx0 qx1 qx2 qx3 qx4 qx5 qx6 qx7 qx8 qx9 qx10 qx11 qx12 qx13 qx14 qx15 qd0 qd1 qd2 qd3 qd4 qd5 qd6 qd7 qd8 qd9 qd10 qd11 qd12 qd13 qd14 qd15
  rw [HXV.out, HDV.out]
  refine HSH.out.mono ?_
  rintro e w9 ⟨rfl, f9⟩
  go_wp2_with (fail)
  refine (HMK.out w9).mono ?_
  rintro e w10 ⟨rfl, rfl⟩
  go_wp2
  go_ret
  exact ⟨rfl, G8b.out.then f9⟩
end Go.Proofs.YtljioepkbbbibaaDoor
