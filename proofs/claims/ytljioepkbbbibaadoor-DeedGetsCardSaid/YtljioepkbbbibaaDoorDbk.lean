/-
  Dbk: DeedBack: what it does.
-/
import Derived.Test.YtljioepkbbbibaaDoorDbl
namespace Go.Proofs.YtljioepkbbbibaaDoor
open Go.RowKit

theorem cut_calls {f : Fd} {l : List (Fd × Nat)} (hR : Right f l) (hf : Fine f l) (A : Option Addr) (c q lo hi : Nat) (w : World) (h : Rd w lo hi A (deedB f l)) (hh : hi ≤ w.heap.size) (hq : q < (deedB f l).length) (hH : Has w) :
    Calls Tryd.prog 12 #[.slice A q c] w fun e w' => ∃ cs, e = .returned (.tuple #[.agg cs, .int .i64 4]) ∧ IsD w' cs (bareF 0) [] ∧ Fr NoB w w' := by
  have hlen := deedB_len hR
  have h2 := g_none (getD_cut hR hf.ok (fun q hq => (hf.parts q hq).1) hq) A c lo hi w h.take hh (by rw [List.length_take]; omega) hH
  rw [List.length_take, Nat.min_eq_left (Nat.le_of_lt hq)] at h2
  exact h2
theorem b_zero {w : World} {cs : Array Value} (h : IsD w cs (bareF 0) []) :
    Calls Tryd.prog 15 #[.agg cs, .agg #[.int .i64 0, .int .u8 0, .int .i64 0, .int .i64 0, .int .i64 0, .int .i64 0, .string ⟨#[]⟩, .slice none 0 0, .int .i64 0, .int .i64 0, .int .i64 0, .int .i64 0, .int .i64 0, .int .i64 0, .slice none 0 0, .slice none 0 0]] w fun e w' => e = .returned (.bool true) ∧ Fr NoB w w' :=
  b_same h (zcs_is w) Fine.bare
theorem size_of {cs : Array Value} (h : cs.size = 16) : (Tryd.prog.info? 31).map (·.size) = some cs.size := size16.trans (congrArg some h.symm)
theorem same_again (A A' : Option Addr) (b : List UInt8) (c c' lo hi lo' hi' : Nat) (w : World) (h : Rd w lo hi A b) (h' : Rd w lo' hi' A' b) (hb : b.length ≤ 140737488355328) :
    Calls Tryd.prog 16 #[.slice A b.length c, .slice A' b.length c'] w fun e w' => e = .returned (.bool true) ∧ Fr NoB w w' := by
  refine (same_calls A A' b b c c' lo hi lo' hi' w h h' hb hb).mono ?_
  rw [show (b == b) = true by simp]
  rintro e w' ⟨h, n, rfl⟩
  exact ⟨h, (Fr.refl NoB w).drewN n⟩
theorem held_load_on {P : Program} {ops : Array Oper} {Q : Exit → Act → World → Prop} {rest : List Oper} {a : Act} {w : World} {ty tp : TypeId} {x : Operand} {dst : Option Tmp} {ps : String} {af : Array Edge} {gd : Nat × Bool} (h : Held (wpList P ops Q ({ dst := dst, op := .load ty x, type := tp, pos := ps, after := af, guard := some gd } :: rest) a w)) : wpList P ops Q ({ dst := dst, op := .load ty x, type := tp, pos := ps, after := af, guard := some gd } :: rest) a w := h
theorem wpList_load_on {P : Program} {ops : Array Oper} {rest : List Oper} {o : Oper} {a : Act} {w : World} {Q : Exit → Act → World → Prop} (hw : Region.wanted o (yielded ops a.tmps)) (ty : TypeId) (x : Operand) (ho : o.op = .load ty x)
    (g : Nat) (hx : a.eval x = .pointer (some ⟨g, 0, none⟩)) (t : TypeId) (cs : Array Value) (fr : Nat × Nat) (d : TypeDesc) (hg : w.heap[g]? = some (.cells cs t fr))
    (hu : P.underlying ty = some d) (hd : (match d with | .struct _ | .array _ _ => true | _ => false) = true) (hi : (P.info? ty).map (·.size) = some cs.size)
    (h : wpList P ops Q rest (a.put o.dst (.agg cs)) w) : wpList P ops Q (o :: rest) a w :=
  wpList_step fun K hK => by rw [if_pos hw]; exact wp_load_row ty x ho g hx t cs fr d hg hu hd hi (hK _ _ h)
theorem deedB_pos (f : Fd) (l : List (Fd × Nat)) : 1 ≤ (deedB f l).length := by simp [deedB, headB]

set_option maxRecDepth 8000 in
set_option maxHeartbeats 6400000 in
theorem back_no (f : Fd) (l : List (Fd × Nat)) (cs : Array Value) (A A2 : Option Addr) (b more : List UInt8) (c c2 : Nat) (cut : Int) (w : World) (hl : l.length ≤ 140737488355328) (hf : f.Ok) (hok : ∀ q ∈ l, q.1.Ok ∧ q.2 ≤ 140737488355328) (hD : IsD w cs f l) (hb : Rd w 0 w.heap.size A b) (hbl : b.length ≤ 140737488355328) (_hm : Rd w 0 w.heap.size A2 more) (_hml : more.length ≤ 140737488355328) (hH : Has w) (hR : ¬ Right f l) :
    Calls Tryd.prog 3 #[.agg cs, .slice A b.length c, .int .i64 cut, .slice A2 more.length c2] w fun e w' => e = .returned (.bool true) ∧ Fr NoB w w' := by
  have h16 := hD.size
  have H16 := Lib.hid h16
  have HON := Lib.hid hD.one
  have HH := Lib.hid hH
  have HA := Lib.hid (fun W (F : Fr NoB w W) => awake_calls W (hH.fr F))
  have HG := Lib.hid (fun W (F : Fr NoB w W) => b_great (hD.fr F) hl hf hok)
  have hp := fun W (F : Fr NoB w W) => b_put (hD.fr F) hl hf hok (hH.fr F)
  have hr := fun W (F : Fr NoB w W) => b_right (hD.fr F) hl hf hok (hH.fr F)
  have HGB := Lib.hid (fun W (F : Fr NoB w W) => b_get A b c 0 w.heap.size W (hb.fr F (Nat.le_refl _) (fun _ _ _ x => x)) F.size hbl (hH.fr F))
  have HSB := Lib.hid (fun W QA qc lo hi (h : Rd W lo hi QA b) (F : Fr NoB w W) => same_again QA A b qc c lo hi 0 w.heap.size W h (hb.fr F (Nat.le_refl _) (fun _ _ _ x => x)) hbl)
  rw [show putD f l = ([], 4) from if_neg hR] at hp
  rw [decide_eq_false hR] at hr
  have HP := Lib.hid hp
  have HR := Lib.hid hr
  clear hp hr hD hf hok hH hb hR _hm h16
  go_enter Tryd.func3, Tryd.ntmps3
  go_wp2_with (fail)
  have F0 := Lib.hid ((Fr.refl NoB w).alloc (.cells cs 31))
  have HB0 := Lib.hid (heap_alloc_new w (.cells cs 31))
  generalize w.alloc (.cells cs 31) = wb at F0 HB0 ⊢
  obtain ⟨N, hN⟩ : ∃ N, w.heap.size = N := ⟨_, rfl⟩
  rw [hN] at HB0 ⊢
  have HN := Lib.hid hN
  clear hN
  refine (HA.out _ F0.out).mono ?_
  rintro e w1 ⟨rfl, f1⟩
  have F1 := Lib.hid (F0.out.then f1)
  have HB1 := Lib.hid (f1.at_ HB0.out (fun x => x))
  clear f1 HA F0 HB0
  go_wp2_with (first | (refine wpList_load_row rfl 31 _ rfl N rfl _ _ _ _ HB1.out Tryd.underlying31 rfl (size_of H16.out) ?_) | fail)
  refine (HG.out _ F1.out).mono ?_
  rintro e w2 ⟨⟨g, rfl⟩, f2⟩
  have F2 := Lib.hid (F1.out.then f2)
  have HB2 := Lib.hid (f2.at_ HB1.out (fun x => x))
  clear f2 HG F1 HB1
  cases g with
  | true => as_aux_lemma =>
    go_wp2
    go_ret
    exact ⟨rfl, F2.out⟩
  | false =>
  by_cases k1 : 100000 < b.length
  · as_aux_lemma =>
    have k1i : (100000 : Int) < (b.length : Int) := by omega
    go_wp2
    go_ret
    exact ⟨rfl, F2.out⟩
  have k1i : ¬ (100000 : Int) < (b.length : Int) := by omega
  by_cases k2 : 1000 < more.length
  · as_aux_lemma =>
    have k2i : (1000 : Int) < (more.length : Int) := by omega
    go_wp2
    go_ret
    exact ⟨rfl, F2.out⟩
  have k2i : ¬ (1000 : Int) < (more.length : Int) := by omega
  clear k1 k2
  go_wp2_with (first | (refine wpList_load_row rfl 31 _ rfl N rfl _ _ _ _ HB2.out Tryd.underlying31 rfl (size_of H16.out) ?_) | fail)
  refine (HP.out _ F2.out).mono ?_
  rintro e w3 ⟨PA, pc, rfl, -, -, -, f3⟩
  have F3 := Lib.hid (F2.out.then f3)
  have HB3 := Lib.hid (f3.at_ HB2.out (fun x => x))
  clear f3 F2 HB2 HP
  go_wp2_with (first | (refine wpList_load_row rfl 31 _ rfl N rfl _ _ _ _ HB3.out Tryd.underlying31 rfl (size_of H16.out) ?_) | fail)
  refine (HR.out _ F3.out).mono ?_
  rintro e w4 ⟨rfl, f4⟩
  have F4 := Lib.hid (F3.out.then f4)
  clear f4 F3 HB3 HR
  go_wp2_with (fail)
  refine (HGB.out _ F4.out).mono ?_
  rintro e w20 ⟨xs, fx, lx, zz, rfl, hg, hd, f20⟩
  have F20 := Lib.hid (F4.out.then f20)
  have X20 := Lib.hid hd
  have X16 := Lib.hid hd.size
  have XON := Lib.hid hd.one
  clear hd f20 F4 HGB
  rcases hg with ⟨hg, rfl⟩ | ⟨hg, rfl, rfl, rfl⟩
  · as_aux_lemma =>
    have HPX := Lib.hid (fun W (G : Fr NoB w20 W) => p_back hg (X20.out.fr G) (HH.out.fr (F20.out.then G)))
    have HRX := Lib.hid (fun W (G : Fr NoB w20 W) => r_back hg (X20.out.fr G) (HH.out.fr (F20.out.then G)))
    clear hg
    have HBX := Lib.hid (heap_alloc_new w20 (.cells xs 31))
    have FA := Lib.hid ((Fr.refl NoB w20).alloc (.cells xs 31))
    go_wp2_with (first | (with_reducible refine held_store (ty := 31) ?_) | fail)
    unfold Held
    refine wpList_store_row rfl 31 _ _ rfl w20.heap.size xs ?_ ?_ _ _ (heap_alloc_last w20 _) (size_of X16.out) X16.out.symm XON.out ?_
    · rfl
    · rfl
    rw [World.setRow_alloc_new]
    generalize w20.alloc (.cells xs 31) = w21 at *
    obtain ⟨XB, hXB⟩ : ∃ XB, w20.heap.size = XB := ⟨_, rfl⟩
    rw [hXB] at HBX ⊢
    clear hXB
    go_wp2_with (first | (refine wpList_load_row rfl 31 _ rfl XB rfl _ _ _ _ HBX.out Tryd.underlying31 rfl (size_of X16.out) ?_) | fail)
    refine (HPX.out _ FA.out).mono ?_
    rintro e w22 ⟨QA, qc, rfl, -, -, hr22, f22⟩
    have F22 := Lib.hid (FA.out.then f22)
    have HB22 := Lib.hid (f22.at_ HBX.out (fun x => x))
    have R22 := Lib.hid hr22
    clear hr22 f22 FA HBX HPX
    go_wp2_with (first | (refine wpList_load_row rfl 31 _ rfl XB rfl _ _ _ _ HB22.out Tryd.underlying31 rfl (size_of X16.out) ?_) | fail)
    refine (HRX.out _ F22.out).mono ?_
    rintro e w23 ⟨rfl, f23⟩
    have R23 := Lib.hid (R22.out.fr f23 (Nat.le_refl _) (fun _ _ _ x => x))
    have F23 := Lib.hid (F20.out.then (F22.out.then f23))
    clear f23 F22 R22 HB22 HRX
    go_wp2_with (fail)
    refine (HSB.out w23 QA qc _ _ R23.out F23.out).mono ?_
    rintro e w24 ⟨rfl, f24⟩
    go_wp2
    go_ret
    exact ⟨rfl, F23.out.then f24⟩
  · as_aux_lemma =>
    have HBX := Lib.hid (heap_alloc_new w20 (.cells xs 31))
    have FA := Lib.hid ((Fr.refl NoB w20).alloc (.cells xs 31))
    go_wp2_with (first | (with_reducible refine held_store (ty := 31) ?_) | fail)
    unfold Held
    refine wpList_store_row rfl 31 _ _ rfl w20.heap.size xs ?_ ?_ _ _ (heap_alloc_last w20 _) (size_of X16.out) X16.out.symm XON.out ?_
    · rfl
    · rfl
    rw [World.setRow_alloc_new]
    generalize w20.alloc (.cells xs 31) = w21 at *
    obtain ⟨XB, hXB⟩ : ∃ XB, w20.heap.size = XB := ⟨_, rfl⟩
    rw [hXB] at HBX ⊢
    clear hXB
    go_wp2_with (first | (with_reducible refine held_load_on (ty := 31) ?_) | fail)
    unfold Held
    refine wpList_load_on (by rfl) 31 _ rfl XB rfl _ _ _ _ HBX.out Tryd.underlying31 rfl (size_of X16.out) ?_
    go_wp2_with (fail)
    refine (b_zero (X20.out.fr FA.out)).mono ?_
    rintro e w22 ⟨rfl, f22⟩
    go_wp2
    go_ret
    exact ⟨rfl, (F20.out.then FA.out).then f22⟩
set_option maxRecDepth 8000 in
set_option maxHeartbeats 6400000 in
theorem back_yes (f : Fd) (l : List (Fd × Nat)) (cs : Array Value) (A A2 : Option Addr) (b more : List UInt8) (c c2 : Nat) (cut : Int) (w : World) (hl : l.length ≤ 140737488355328) (hf : f.Ok) (hok : ∀ q ∈ l, q.1.Ok ∧ q.2 ≤ 140737488355328) (hD : IsD w cs f l) (hb : Rd w 0 w.heap.size A b) (hbl : b.length ≤ 140737488355328) (hm : Rd w 0 w.heap.size A2 more) (hml : more.length ≤ 140737488355328) (hH : Has w) (hR : Right f l) :
    Calls Tryd.prog 3 #[.agg cs, .slice A b.length c, .int .i64 cut, .slice A2 more.length c2] w fun e w' => e = .returned (.bool true) ∧ Fr NoB w w' := by
  have h16 := hD.size
  have H16 := Lib.hid h16
  have HON := Lib.hid hD.one
  have HH := Lib.hid hH
  have HA := Lib.hid (fun W (F : Fr NoB w W) => awake_calls W (hH.fr F))
  have HG := Lib.hid (fun W (F : Fr NoB w W) => b_great (hD.fr F) hl hf hok)
  have hp := fun W (F : Fr NoB w W) => b_put (hD.fr F) hl hf hok (hH.fr F)
  have hr := fun W (F : Fr NoB w W) => b_right (hD.fr F) hl hf hok (hH.fr F)
  have HGB := Lib.hid (fun W (F : Fr NoB w W) => b_get A b c 0 w.heap.size W (hb.fr F (Nat.le_refl _) (fun _ _ _ x => x)) F.size hbl (hH.fr F))
  have HSB := Lib.hid (fun W QA qc lo hi (h : Rd W lo hi QA b) (F : Fr NoB w W) => same_again QA A b qc c lo hi 0 w.heap.size W h (hb.fr F (Nat.le_refl _) (fun _ _ _ x => x)) hbl)
  rw [show putD f l = (deedB f l, 0) from if_pos hR] at hp
  rw [decide_eq_true hR] at hr
  have HP := Lib.hid hp
  have HR := Lib.hid hr
  have hfi := Fine.right hR hf hok
  have HC := Lib.hid (fun PA pc lo hi W (h : Rd W lo hi PA (deedB f l)) (hh : hi ≤ W.heap.size) (F : Fr NoB w W) => g_back hR hfi PA pc lo hi W h hh (hH.fr F))
  have HCC := Lib.hid (fun PA pc q lo hi W (h : Rd W lo hi PA (deedB f l)) (hh : hi ≤ W.heap.size) (hq : q < (deedB f l).length) (F : Fr NoB w W) => cut_calls hR hfi PA pc q lo hi W h hh hq (hH.fr F))
  have HCM := Lib.hid (fun PA pc lo hi W (h : Rd W lo hi PA (deedB f l ++ more)) (hh : hi ≤ W.heap.size) (hl2 : (deedB f l ++ more).length ≤ 140737488355328) (F : Fr NoB w W) => g_more hR hfi more PA pc lo hi W h hh hl2 (hH.fr F))
  have HS := Lib.hid (fun W xs (h : IsD W xs f l) (F : Fr NoB w W) => b_same h (hD.fr F) hfi)
  have hlen := deedB_len hR
  have hpos := deedB_pos f l
  obtain ⟨C, hC⟩ : ∃ C, deedB f l = C := ⟨_, rfl⟩
  simp only [hC] at hp hlen hpos HP HC HCC HCM
  simp only [List.length_append] at HCM
  have HMR := Lib.hid hm
  clear hp hr hD hf hok hH hb hR hC hm hfi h16
  have hclen : ¬ (1048576 : Int) < (C.length : Int) := by omega
  go_enter Tryd.func3, Tryd.ntmps3
  go_wp2_with (fail)
  have F0 := Lib.hid ((Fr.refl NoB w).alloc (.cells cs 31))
  have HB0 := Lib.hid (heap_alloc_new w (.cells cs 31))
  generalize w.alloc (.cells cs 31) = wb at F0 HB0 ⊢
  obtain ⟨N, hN⟩ : ∃ N, w.heap.size = N := ⟨_, rfl⟩
  rw [hN] at HB0 ⊢
  have HN := Lib.hid hN
  clear hN
  refine (HA.out _ F0.out).mono ?_
  rintro e w1 ⟨rfl, f1⟩
  have F1 := Lib.hid (F0.out.then f1)
  have HB1 := Lib.hid (f1.at_ HB0.out (fun x => x))
  clear f1 HA F0 HB0
  go_wp2_with (first | (refine wpList_load_row rfl 31 _ rfl N rfl _ _ _ _ HB1.out Tryd.underlying31 rfl (size_of H16.out) ?_) | fail)
  refine (HG.out _ F1.out).mono ?_
  rintro e w2 ⟨⟨g, rfl⟩, f2⟩
  have F2 := Lib.hid (F1.out.then f2)
  have HB2 := Lib.hid (f2.at_ HB1.out (fun x => x))
  clear f2 HG F1 HB1
  cases g with
  | true => as_aux_lemma =>
    go_wp2
    go_ret
    exact ⟨rfl, F2.out⟩
  | false =>
  by_cases k1 : 100000 < b.length
  · as_aux_lemma =>
    have k1i : (100000 : Int) < (b.length : Int) := by omega
    go_wp2
    go_ret
    exact ⟨rfl, F2.out⟩
  have k1i : ¬ (100000 : Int) < (b.length : Int) := by omega
  by_cases k2 : 1000 < more.length
  · as_aux_lemma =>
    have k2i : (1000 : Int) < (more.length : Int) := by omega
    go_wp2
    go_ret
    exact ⟨rfl, F2.out⟩
  have k2i : ¬ (1000 : Int) < (more.length : Int) := by omega
  clear k1 k2
  go_wp2_with (first | (refine wpList_load_row rfl 31 _ rfl N rfl _ _ _ _ HB2.out Tryd.underlying31 rfl (size_of H16.out) ?_) | fail)
  refine (HP.out _ F2.out).mono ?_
  rintro e w3 ⟨PA, pc, rfl, hn1, hn2, hr3, f3⟩
  have F3 := Lib.hid (F2.out.then f3)
  have HB3 := Lib.hid (f3.at_ HB2.out (fun x => x))
  have R3 := Lib.hid (hr3.wide (Nat.zero_le _) (Nat.le_refl _))
  clear f3 F2 HB2 HP hr3
  go_wp2_with (first | (refine wpList_load_row rfl 31 _ rfl N rfl _ _ _ _ HB3.out Tryd.underlying31 rfl (size_of H16.out) ?_) | fail)
  refine (HR.out _ F3.out).mono ?_
  rintro e w4 ⟨rfl, f4⟩
  have F4 := Lib.hid (F3.out.then f4)
  have HB4 := Lib.hid (f4.at_ HB3.out (fun x => x))
  have R4 := Lib.hid (R3.out.step f4)
  clear f4 F3 HB3 HR R3
  go_wp2_with (fail)
  refine (HC.out PA pc _ _ w4 R4.out (Nat.le_refl _) F4.out).mono ?_
  rintro e w5 ⟨xa, rfl, hd, f5⟩
  have A16 := Lib.hid hd.size
  have AON := Lib.hid hd.one
  have F5 := Lib.hid ((F4.out.then f5).alloc (.cells xa 31))
  have FA := (Fr.refl NoB w5).alloc (.cells xa 31)
  have HB5 := Lib.hid (FA.at_ (f5.at_ HB4.out (fun x => x)) (fun x => x))
  have R5 := Lib.hid ((R4.out.step f5).step FA)
  have XA := Lib.hid (hd.fr FA)
  have HXA := Lib.hid (heap_alloc_new w5 (.cells xa 31))
  clear f5 F4 HB4 R4 HC hd FA
  go_wp2_with (first | (with_reducible refine held_store (ty := 31) ?_) | fail)
  unfold Held
  refine wpList_store_row rfl 31 _ _ rfl w5.heap.size xa ?_ ?_ _ _ (heap_alloc_last w5 _) (size_of A16.out) A16.out.symm AON.out ?_
  · rfl
  · rfl
  rw [World.setRow_alloc_new]
  generalize w5.alloc (.cells xa 31) = w6 at *
  obtain ⟨NA, hNA⟩ : ∃ NA, w5.heap.size = NA := ⟨_, rfl⟩
  rw [hNA] at HXA ⊢
  clear hNA
  go_wp2_with (fail)
  have hq0 : 0 ≤ cut % (C.length : Int) := Int.emod_nonneg _ (by omega)
  have hq1 : cut % (C.length : Int) < (C.length : Int) := Int.emod_lt_of_pos _ (by omega)
  refine (pick_calls cut C.length w6 (by omega) (by omega)).mono ?_
  rintro e w7 ⟨rfl, rfl⟩
  obtain ⟨q, hq⟩ : ∃ q : Nat, cut % (C.length : Int) = (q : Int) := ⟨(cut % (C.length : Int)).toNat, by omega⟩
  rw [hq] at hq0 hq1 ⊢
  clear hq
  have hqc : (q : Int) ≤ (pc : Int) := by omega
  go_wp2_with (fail)
  refine (HCC.out PA pc q _ _ w6 R5.out (Nat.le_refl _) (by omega) F5.out).mono ?_
  rintro e w8 ⟨xb, rfl, hd, f8⟩
  have B16 := Lib.hid hd.size
  have BON := Lib.hid hd.one
  have FA := (Fr.refl NoB w8).alloc (.cells xb 31)
  have F8 := Lib.hid ((F5.out.then f8).then FA)
  have G8 := f8.then FA
  have HB8 := Lib.hid (G8.at_ HB5.out (fun x => x))
  have HXA8 := Lib.hid (G8.at_ HXA.out (fun x => x))
  have R8 := Lib.hid (R5.out.step G8)
  have XA8 := Lib.hid (XA.out.fr G8)
  clear f8 F5 HB5 HXA R5 XA HCC hd FA G8 hq0 hq1 hqc
  go_wp2_with (first | (with_reducible refine held_store (ty := 31) ?_) | fail)
  unfold Held
  refine wpList_store_row rfl 31 _ _ rfl w8.heap.size xb ?_ ?_ _ _ (heap_alloc_last w8 _) (size_of B16.out) B16.out.symm BON.out ?_
  · rfl
  · rfl
  rw [World.setRow_alloc_new]
  generalize w8.alloc (.cells xb 31) = w9 at *
  go_wp2_with (fail)
  refine (copy_calls PA C pc _ _ w9 R8.out (by omega)).mono ?_
  rintro e w10 ⟨v10, rfl, o10, b10⟩
  obtain ⟨CA, cc, rfl, n1, n2⟩ := own_form o10
  have f10 : Fr NoB w9 w10 := Fr.ofBelow b10
  have F10 := Lib.hid (F8.out.then f10)
  have HB10 := Lib.hid (f10.at_ HB8.out (fun x => x))
  have HXA10 := Lib.hid (f10.at_ HXA8.out (fun x => x))
  have XA10 := Lib.hid (XA8.out.fr f10)
  have O10 := Lib.hid o10
  have HSZ9 := Lib.hid f10.size
  have HF910 := Lib.hid f10
  have F8b := F8
  have HB8b := HB8
  have HXA8b := HXA8
  have XA8b := XA8
  clear b10 f10 o10 F8 HB8 HXA8 XA8 R8
  obtain ⟨i0, hi0, hz0, hz1, hz2⟩ := info_parts info_byte
  have MR10 := Lib.hid (HMR.out.fr F10.out (Nat.le_refl _) (fun _ _ _ x => x)).srcs
  go_wp2_with (at_builtin; go_loud (refine wpList_append_src _ rfl _ _ 24 rfl w9.heap.size 5 i0 (.int .u8 0) 1 1 Tryd.underlying24 hi0 hz0 hz1 hz2 rfl (by decide) (.slice CA C.length cc) C.length (bv C) rfl O10.out A2 more.length c2 (bv more) rfl (by simp) MR10.out (bv_one more) (by unfold maxLen; omega) (by omega) HSZ9.out ?_))
  intro v' w11 hA
  rw [show bv C ++ bv more = bv (C ++ more) by simp [bv]] at hA
  obtain ⟨MA, mc, rfl, n3, n4, hr11⟩ := App.rd hA
  simp only [List.length_append] at n3 ⊢
  have f11 : Fr NoB w9 w11 := HF910.out.trans hA.fr (fun k hk hx => absurd (O10.out.lt k hx).1 (by omega))
  have R11 := Lib.hid (hr11.wide (Nat.zero_le _) (Nat.le_refl _))
  have F11 := Lib.hid (F8b.out.then f11)
  have HB11 := Lib.hid (f11.at_ HB8b.out (fun x => x))
  have HXA11 := Lib.hid (f11.at_ HXA8b.out (fun x => x))
  have XA11 := Lib.hid (XA8b.out.fr f11)
  clear hA hr11 f11 HF910 O10 MR10 F10 HB10 HXA10 XA10 hi0 hz0 hz1 hz2 F8b HB8b HXA8b XA8b
  go_wp2_with (fail)
  refine (HCM.out MA mc _ _ w11 R11.out (Nat.le_refl _) (by omega) F11.out).mono ?_
  rintro e w12 ⟨xc, hz, rfl, hzz, ⟨fc, lc, hd⟩, f12⟩
  have C16 := Lib.hid hd.size
  have CON := Lib.hid hd.one
  have FA := (Fr.refl NoB w12).alloc (.cells xc 31)
  have G12 := f12.then FA
  have F12 := Lib.hid (F11.out.then G12)
  have HB12 := Lib.hid (G12.at_ HB11.out (fun x => x))
  have HXA12 := Lib.hid (G12.at_ HXA11.out (fun x => x))
  have XA12 := Lib.hid (XA11.out.fr G12)
  clear f12 F11 HB11 HXA11 XA11 R11 HCM hd FA G12
  go_wp2_with (first | (with_reducible refine held_store (ty := 31) ?_) | fail)
  unfold Held
  refine wpList_store_row rfl 31 _ _ rfl w12.heap.size xc ?_ ?_ _ _ (heap_alloc_last w12 _) (size_of C16.out) C16.out.symm CON.out ?_
  · rfl
  · rfl
  rw [World.setRow_alloc_new]
  generalize w12.alloc (.cells xc 31) = w13 at *
  go_wp2_with (first | (with_reducible refine held_load_on (ty := 31) ?_) | fail)
  unfold Held
  refine wpList_load_on (by rfl) 31 _ rfl NA rfl _ _ _ _ HXA12.out Tryd.underlying31 rfl (size_of A16.out) ?_
  go_wp2_with (first | (with_reducible refine held_load_on (ty := 31) ?_) | fail)
  unfold Held
  refine wpList_load_on (by rfl) 31 _ rfl N rfl _ _ _ _ HB12.out Tryd.underlying31 rfl (size_of H16.out) ?_
  go_wp2_with (fail)
  refine (HS.out w13 xa XA12.out F12.out).mono ?_
  rintro e w14 ⟨rfl, f14⟩
  have F14 := Lib.hid (F12.out.then f14)
  clear f14 F12 HB12 HXA12 XA12 HS A16 AON B16 BON C16 CON
  generalize hbm : ((more.length : Int) == 0) = bm at *
  go_wp2_with (fail)
  refine (HGB.out _ F14.out).mono ?_
  rintro e w20 ⟨xs, fx, lx, zz, rfl, hg, hd, f20⟩
  have F20 := Lib.hid (F14.out.then f20)
  have X20 := Lib.hid hd
  have X16 := Lib.hid hd.size
  have XON := Lib.hid hd.one
  clear hd f20 F14 HGB
  rcases hg with ⟨hg, rfl⟩ | ⟨hg, rfl, rfl, rfl⟩
  · as_aux_lemma =>
    have HPX := Lib.hid (fun W (G : Fr NoB w20 W) => p_back hg (X20.out.fr G) (HH.out.fr (F20.out.then G)))
    have HRX := Lib.hid (fun W (G : Fr NoB w20 W) => r_back hg (X20.out.fr G) (HH.out.fr (F20.out.then G)))
    clear hg
    have HBX := Lib.hid (heap_alloc_new w20 (.cells xs 31))
    have FA := Lib.hid ((Fr.refl NoB w20).alloc (.cells xs 31))
    go_wp2_with (first | (with_reducible refine held_store (ty := 31) ?_) | fail)
    unfold Held
    refine wpList_store_row rfl 31 _ _ rfl w20.heap.size xs ?_ ?_ _ _ (heap_alloc_last w20 _) (size_of X16.out) X16.out.symm XON.out ?_
    · rfl
    · rfl
    rw [World.setRow_alloc_new]
    generalize w20.alloc (.cells xs 31) = w21 at *
    obtain ⟨XB, hXB⟩ : ∃ XB, w20.heap.size = XB := ⟨_, rfl⟩
    rw [hXB] at HBX ⊢
    clear hXB
    go_wp2_with (first | (refine wpList_load_row rfl 31 _ rfl XB rfl _ _ _ _ HBX.out Tryd.underlying31 rfl (size_of X16.out) ?_) | fail)
    refine (HPX.out _ FA.out).mono ?_
    rintro e w22 ⟨QA, qc, rfl, -, -, hr22, f22⟩
    have F22 := Lib.hid (FA.out.then f22)
    have HB22 := Lib.hid (f22.at_ HBX.out (fun x => x))
    have R22 := Lib.hid hr22
    clear hr22 f22 FA HBX HPX
    go_wp2_with (first | (refine wpList_load_row rfl 31 _ rfl XB rfl _ _ _ _ HB22.out Tryd.underlying31 rfl (size_of X16.out) ?_) | fail)
    refine (HRX.out _ F22.out).mono ?_
    rintro e w23 ⟨rfl, f23⟩
    have R23 := Lib.hid (R22.out.fr f23 (Nat.le_refl _) (fun _ _ _ x => x))
    have F23 := Lib.hid (F20.out.then (F22.out.then f23))
    clear f23 F22 R22 HB22 HRX
    go_wp2_with (fail)
    refine (HSB.out w23 QA qc _ _ R23.out F23.out).mono ?_
    rintro e w24 ⟨rfl, f24⟩
    go_wp2
    go_ret
    exact ⟨rfl, F23.out.then f24⟩
  · as_aux_lemma =>
    have HBX := Lib.hid (heap_alloc_new w20 (.cells xs 31))
    have FA := Lib.hid ((Fr.refl NoB w20).alloc (.cells xs 31))
    go_wp2_with (first | (with_reducible refine held_store (ty := 31) ?_) | fail)
    unfold Held
    refine wpList_store_row rfl 31 _ _ rfl w20.heap.size xs ?_ ?_ _ _ (heap_alloc_last w20 _) (size_of X16.out) X16.out.symm XON.out ?_
    · rfl
    · rfl
    rw [World.setRow_alloc_new]
    generalize w20.alloc (.cells xs 31) = w21 at *
    obtain ⟨XB, hXB⟩ : ∃ XB, w20.heap.size = XB := ⟨_, rfl⟩
    rw [hXB] at HBX ⊢
    clear hXB
    go_wp2_with (first | (with_reducible refine held_load_on (ty := 31) ?_) | fail)
    unfold Held
    refine wpList_load_on (by rfl) 31 _ rfl XB rfl _ _ _ _ HBX.out Tryd.underlying31 rfl (size_of X16.out) ?_
    go_wp2_with (fail)
    refine (b_zero (X20.out.fr FA.out)).mono ?_
    rintro e w22 ⟨rfl, f22⟩
    go_wp2
    go_ret
    exact ⟨rfl, (F20.out.then FA.out).then f22⟩
theorem back_walk (f : Fd) (l : List (Fd × Nat)) (cs : Array Value) (A A2 : Option Addr) (b more : List UInt8) (c c2 : Nat) (cut : Int) (w : World) (hl : l.length ≤ 140737488355328) (hf : f.Ok) (hok : ∀ q ∈ l, q.1.Ok ∧ q.2 ≤ 140737488355328) (hD : IsD w cs f l) (hb : Rd w 0 w.heap.size A b) (hbl : b.length ≤ 140737488355328) (hm : Rd w 0 w.heap.size A2 more) (hml : more.length ≤ 140737488355328) (hH : Has w) :
    Calls Tryd.prog 3 #[.agg cs, .slice A b.length c, .int .i64 cut, .slice A2 more.length c2] w fun e w' => e = .returned (.bool true) ∧ Fr NoB w w' := by
  by_cases hR : Right f l
  · exact back_yes f l cs A A2 b more c c2 cut w hl hf hok hD hb hbl hm hml hH hR
  · exact back_no f l cs A A2 b more c c2 cut w hl hf hok hD hb hbl hm hml hH hR
end Go.Proofs.YtljioepkbbbibaaDoor
