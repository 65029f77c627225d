/-
  Awa: the statements' own 'awake' of chapter 6: true.
-/
import Derived.Test.YtlckgkpgllhpbaaDoorAyi
import Derived.Test.YtlckgkpgllhpbaaDoorAev
import Derived.Test.YtlckgkpgllhpbaaDoorApk
import Derived.Test.YtlckgkpgllhpbaaDoorKit
namespace Go.Proofs.YtlckgkpgllhpbaaDoor
open Go.RowKit

def wA : Fa := ⟨4, 3, 0, 0, [47, 97], [], 0, -1, false, 0, 0, 0, 0, []⟩
def wE : Fe := ⟨2, 1, [47, 97], 7⟩
def wY : Fy := ⟨13, [1, 0, 0, 0, 0], [], [], [0, 0, 0, 0, 0, 0, 0, 0, 0, 0], [], (0, [])⟩
def bA : List UInt8 := [4, 6, 0, 0, 4, 47, 97, 1]
def bE : List UInt8 := [2, 1, 4, 47, 97, 14]
theorem wA_ok : wA.Ok := by constructor <;> decide
theorem wA_ms : wA.OkMs := fun m hm => absurd hm (by simp [wA])
theorem wE_ok : wE.Ok := by constructor <;> decide
theorem wY_ok : wY.Ok := by
  constructor
  · decide
  · intro n hn; simp only [wY, List.mem_cons, List.not_mem_nil, or_false] at hn; rcases hn with rfl | rfl | rfl | rfl | rfl <;> (unfold OkI; omega)
  · decide
  · intro n hn; simp only [wY, List.mem_cons, List.not_mem_nil, or_false] at hn; rcases hn with rfl | rfl | rfl | rfl | rfl | rfl | rfl | rfl | rfl | rfl <;> (unfold OkI; omega)
  · decide
  · show OkI 0; unfold OkI; omega
  · decide
  · decide
  · decide
  · decide
theorem wA_put : putA wA [] = (bA, 0) := by decide +kernel
theorem wE_put : putEv wE = (bE, 0) := by decide +kernel
theorem wE_right : RightE wE := by decide +kernel
theorem wE_get : getEv bE = some wE := by
  have h := getEv_front wE_right wE_ok
  have e : evB wE = bE := by decide +kernel
  rw [e] at h
  exact h
theorem wY_right : RightY wY [] := by decide +kernel
theorem wY_put : putY wY [] = (replyB wY [], 0) := if_pos wY_right
theorem wY_get : getY (replyB wY []) = some (wY, []) := getY_front wY_right wY_ok (fun q hq => absurd hq (by simp))
theorem wY_len : (replyB wY []).length ≤ 1000 := by decide +kernel
theorem wP_right : RightA (bareA 13) [] := by decide +kernel
theorem wO_right : ¬ RightA (bareA 1) [] := by decide +kernel
theorem rda_nil (w : World) (f : Fa) (hd : f.data = []) (hm : f.ms = []) : RdA w 0 0 f pl0 [] := ⟨by rw [hd]; exact Rd.nil _ _ _ _, by rw [hm]; exact RdM.nil' _ _ _ _, RdPa.nil _ _ _ _⟩
theorem rdy_nil (w : World) : RdY w 0 0 wY py0 [] := ⟨Rd.nil _ _ _ _, RdT.nil _ _ _ _, RdM.nil' _ _ _ _, RdPy.nil _ _ _ _⟩
theorem rd_block {w : World} {B : Nat} {cs : Array Value} {t : TypeId} {fr : Nat × Nat} {l : List UInt8} (h : w.heap[B]? = some (.cells cs t fr)) (hc : cs.toList = bv l) : Rd w 0 w.heap.size (some ⟨B, 0, none⟩) l := fun hl => by
  refine ⟨B, 0, rfl, Nat.zero_le _, Lib.lt_of_heap h, fun i hi => ?_⟩
  rw [Nat.zero_add, Lib.cell_of_heap h]
  have := bv_get l i hi
  rw [← hc] at this
  simpa using this
theorem aw_put (W : World) : Calls Tryd.prog 9 #[.agg #[.int .u8 4, .int .i64 3, .int .i64 0, .int .i64 0, .string ⟨#[47, 97]⟩, .slice none 0 0, .int .i64 0, .int .i64 (-1), .bool false, .int .u8 0, .int .i64 0, .int .i64 0, .int .i64 0, .slice none 0 0, .slice none 0 0]] W fun e w' => ∃ A c, e = .returned (.tuple #[.slice A 8 c, .int .i64 0]) ∧ Rd w' W.heap.size w'.heap.size A bA ∧ Fr NoB W w' := by
  have h := aput_calls wA pl0 [] 0 0 W wA_ok wA_ms (fun q hq => absurd hq (by simp)) (rda_nil W wA rfl rfl) (Nat.zero_le _)
  rw [wA_put] at h
  refine h.mono ?_
  rintro e w' ⟨v, rfl, o, f⟩
  obtain ⟨A, c, rfl, -, -⟩ := own_form o
  exact ⟨A, c, rfl, own_rd o, f⟩
theorem aw_eput (W : World) : Calls Tryd.prog 17 #[.agg #[.int .u8 2, .int .u8 1, .string ⟨#[47, 97]⟩, .int .i64 7]] W fun e w' => ∃ A c, e = .returned (.tuple #[.slice A 6 c, .int .i64 0]) ∧ Rd w' W.heap.size w'.heap.size A bE ∧ Fr NoB W w' := by
  have h := eput_calls wE W wE_ok
  rw [wE_put] at h
  refine h.mono ?_
  rintro e w' ⟨v, rfl, o, f⟩
  obtain ⟨A, c, rfl, -, -⟩ := own_form o
  exact ⟨A, c, rfl, own_rd o, f⟩
theorem aw_eget (W : World) (A : Option Addr) (h : Rd W 0 W.heap.size A bE) : Calls Tryd.prog 25 #[.slice A 6 6] W fun e w' => e = .returned (.tuple #[.agg #[.int .u8 2, .int .u8 1, .string ⟨#[47, 97]⟩, .int .i64 7], .int .i64 0]) ∧ Fr NoB W w' := by
  refine (eget_calls A bE 6 0 W.heap.size W h (Nat.le_refl _) (by decide)).mono ?_
  rintro e w' ⟨f, zz, rfl, hg, fr⟩
  rw [wE_get] at hg
  rcases hg with ⟨h1, rfl⟩ | ⟨h1, -⟩
  · injection h1 with h1; subst h1; exact ⟨rfl, fr⟩
  · cases h1
theorem aw_yput (W : World) : Calls Tryd.prog 15 #[.agg #[.int .u8 13, .int .i64 1, .int .i64 0, .int .i64 0, .int .i64 0, .int .i64 0, .string ⟨#[]⟩, .slice none 0 0, .int .i64 0, .int .i64 0, .int .i64 0, .int .i64 0, .int .i64 0, .int .i64 0, .int .i64 0, .int .i64 0, .int .i64 0, .int .i64 0, .slice none 0 0, .int .i64 0, .slice none 0 0, .slice none 0 0]] W fun e w' => ∃ A c, e = .returned (.tuple #[.slice A (replyB wY []).length c, .int .i64 0]) ∧ Rd w' W.heap.size w'.heap.size A (replyB wY []) ∧ Fr NoB W w' := by
  have h := yput_calls wY py0 [] 0 0 W wY_ok (fun q hq => absurd hq (by simp)) (by simp) (rdy_nil W) (Nat.zero_le _)
  rw [wY_put] at h
  refine h.mono ?_
  rintro e w' ⟨v, rfl, o, f⟩
  obtain ⟨A, c, rfl, -, -⟩ := own_form o
  exact ⟨A, c, rfl, own_rd o, f⟩
theorem aw_yget (W : World) (A : Option Addr) (c lo : Nat) (h : Rd W lo W.heap.size A (replyB wY [])) : Calls Tryd.prog 23 #[.slice A (replyB wY []).length c] W fun e w' => ∃ CS, e = .returned (.tuple #[.agg CS, .int .i64 0]) ∧ CS.size = 22 ∧ CS.all (·.oneCell') = true ∧ CS[1]? = some (.int .i64 1) ∧ Fr NoB W w' := by
  refine (ygetR_calls A _ c lo W.heap.size W h (Nat.le_refl _) (by have := wY_len; omega)).mono ?_
  rintro e w' ⟨f, pl, l, zz, rfl, hg, -, fr⟩
  rw [wY_get] at hg
  rcases hg with ⟨h1, rfl⟩ | ⟨h1, -⟩
  · simp only [Option.some.injEq, Prod.mk.injEq] at h1
    obtain ⟨rfl, rfl⟩ := h1
    exact ⟨ycells wY pl 0, rfl, rfl, ycells_one _ _ _, rfl, fr⟩
  · cases h1
theorem aw_right (W : World) : Calls Tryd.prog 11 #[.agg #[.int .u8 13, .int .i64 0, .int .i64 0, .int .i64 0, .string ⟨#[]⟩, .slice none 0 0, .int .i64 0, .int .i64 0, .bool false, .int .u8 0, .int .i64 0, .int .i64 0, .int .i64 0, .slice none 0 0, .slice none 0 0]] W fun e w' => e = .returned (.bool true) ∧ Fr NoB W w' := by
  have h := aright_calls (bareA 13) pl0 [] 0 0 W (RdPa.nil _ _ _ _) (Nat.zero_le _)
  rw [decide_eq_true wP_right] at h
  exact h
theorem aw_wrong (W : World) : Calls Tryd.prog 11 #[.agg #[.int .u8 1, .int .i64 0, .int .i64 0, .int .i64 0, .string ⟨#[]⟩, .slice none 0 0, .int .i64 0, .int .i64 0, .bool false, .int .u8 0, .int .i64 0, .int .i64 0, .int .i64 0, .slice none 0 0, .slice none 0 0]] W fun e w' => e = .returned (.bool false) ∧ Fr NoB W w' := by
  have h := aright_calls (bareA 1) pl0 [] 0 0 W (RdPa.nil _ _ _ _) (Nat.zero_le _)
  rw [decide_eq_false wO_right] at h
  exact h
theorem aw_same8 (W : World) (A A' : Option Addr) (c lo hi lo' hi' : Nat) (h : Rd W lo hi A bA) (h' : Rd W lo' hi' A' bA) : Calls Tryd.prog 13 #[.slice A 8 c, .slice A' 8 8] W fun e w' => e = .returned (.bool true) ∧ ∃ n, w' = W.drewN n := by
  have hb := same_calls A A' bA bA c 8 lo hi lo' hi' W h h' (by decide) (by decide)
  rw [show (bA == bA) = true by simp] at hb
  exact hb
theorem aw_same6 (W : World) (A A' : Option Addr) (c lo hi lo' hi' : Nat) (h : Rd W lo hi A bE) (h' : Rd W lo' hi' A' bE) : Calls Tryd.prog 13 #[.slice A 6 c, .slice A' 6 6] W fun e w' => e = .returned (.bool true) ∧ ∃ n, w' = W.drewN n := by
  have hb := same_calls A A' bE bE c 6 lo hi lo' hi' W h h' (by decide) (by decide)
  rw [show (bE == bE) = true by simp] at hb
  exact hb
theorem Rd.up {w w' : World} {A : Option Addr} {l : List UInt8} (h : Rd w 0 w.heap.size A l) (f : Fr NoB w w') : Rd w' 0 w'.heap.size A l := (h.fr f (Nat.le_refl _) (fun _ _ _ x => x)).wide (Nat.le_refl _) f.size
theorem Rd.low0 {w : World} {A : Option Addr} {l : List UInt8} {lo : Nat} (h : Rd w lo w.heap.size A l) : Rd w 0 w.heap.size A l := h.wide (Nat.zero_le _) (Nat.le_refl _)
set_option maxHeartbeats 6400000 in
set_option maxRecDepth 8000 in
theorem awake_calls (w : World) : Calls Tryd.prog 8 #[] w fun e w' => e = .returned (.bool true) ∧ Fr NoB w w' := by
  go_enter Tryd.func8, Tryd.ntmps8
  go_wp2_with (fail)
  refine (aw_put _).mono ?_
  rintro e w1 ⟨A1, c1, rfl, r1, f1⟩
  have R1 := Lib.hid (Rd.low0 r1)
  have F1 := Lib.hid f1
  clear r1 f1
  go_wp2_with (fail)
  refine (aw_eput _).mono ?_
  rintro e w2 ⟨A2, c2, rfl, r2, f2⟩
  have R2 := Lib.hid (Rd.low0 r2)
  have R1b := Lib.hid (R1.out.up f2)
  have F2 := Lib.hid (F1.out.then f2)
  clear r2 f2 R1 F1
  go_wp2_with (fail)
  have hb3 := heap_alloc_new w2 (.cells #[.int .u8 2, .int .u8 1, .int .u8 4, .int .u8 47, .int .u8 97, .int .u8 14] 5)
  have f3 : Fr NoB w2 (w2.alloc (.cells #[.int .u8 2, .int .u8 1, .int .u8 4, .int .u8 47, .int .u8 97, .int .u8 14] 5)) := (Fr.refl NoB w2).alloc _
  generalize w2.alloc (.cells #[.int .u8 2, .int .u8 1, .int .u8 4, .int .u8 47, .int .u8 97, .int .u8 14] 5) = w3 at hb3 f3 ⊢
  generalize w2.heap.size = N2 at hb3 ⊢
  refine (aw_eget w3 _ (rd_block hb3 rfl)).mono ?_
  rintro e w4 ⟨rfl, f4⟩
  have R2b := Lib.hid ((R2.out.up f3).up f4)
  have R1c := Lib.hid ((R1b.out.up f3).up f4)
  have F4 := Lib.hid ((F2.out.then f3).then f4)
  clear hb3 f3 f4 R2 R1b F2
  go_wp2_with (fail)
  have hb5 := heap_alloc_new w4 (.cells #[.int .u8 2, .int .u8 1, .string ⟨#[47, 97]⟩, .int .i64 7] 46)
  have f5 : Fr NoB w4 (w4.alloc (.cells #[.int .u8 2, .int .u8 1, .string ⟨#[47, 97]⟩, .int .i64 7] 46)) := (Fr.refl NoB w4).alloc _
  generalize w4.alloc (.cells #[.int .u8 2, .int .u8 1, .string ⟨#[47, 97]⟩, .int .i64 7] 46) = w5 at hb5 f5 ⊢
  generalize w4.heap.size = N4 at hb5 ⊢
  refine (aw_yput w5).mono ?_
  rintro e w6 ⟨A3, c3, rfl, r3, f6⟩
  have HE := Lib.hid (f6.at_ hb5 (fun x => x))
  have R2c := Lib.hid ((R2b.out.up f5).up f6)
  have R1d := Lib.hid ((R1c.out.up f5).up f6)
  have F6 := Lib.hid ((F4.out.then f5).then f6)
  have R3 := Lib.hid r3
  clear hb5 f5 f6 r3 R2b R1c F4
  go_wp2_with (fail)
  refine (aw_yget w6 _ _ _ R3.out).mono ?_
  rintro e w7 ⟨CS, rfl, hs, ho, h1, f7⟩
  have HS := Lib.hid hs
  have HO := Lib.hid ho
  have H1 := Lib.hid h1
  have HE7 := Lib.hid (f7.at_ HE.out (fun x => x))
  have R2d := Lib.hid (R2c.out.up f7)
  have R1e := Lib.hid (R1d.out.up f7)
  have F7 := Lib.hid (F6.out.then f7)
  have HSZ : Hid ((Tryd.prog.info? 43).map (·.size) = some CS.size) := Lib.hid (by rw [HS.out]; exact rsize22)
  clear hs ho h1 f7 HE R2c R1d F6 R3
  go_wp2_with (first | (with_reducible refine held_store (ty := 43) ?_) | fail)
  unfold Held
  refine wpList_store_row rfl 43 _ _ rfl w7.heap.size CS ?_ ?_ _ _ (heap_alloc_new w7 _) HSZ.out HS.out.symm HO.out ?_
  · rfl
  · rfl
  rw [World.setRow_alloc_new]
  have hb8 := heap_alloc_new w7 (.cells CS 43)
  have f8 : Fr NoB w7 (w7.alloc (.cells CS 43)) := (Fr.refl NoB w7).alloc _
  generalize w7.alloc (.cells CS 43) = w8 at hb8 f8 ⊢
  generalize w7.heap.size = N7 at hb8 ⊢
  have HE8 := Lib.hid (f8.at_ HE7.out (fun x => x))
  have HY8 := Lib.hid hb8
  have R2e := Lib.hid (R2d.out.up f8)
  have R1f := Lib.hid (R1e.out.up f8)
  have F8 := Lib.hid (F7.out.then f8)
  clear hb8 f8 HE7 R2d R1e F7 HS HO HSZ
  go_wp2_with (fail)
  refine (aw_right _).mono ?_
  rintro e w9 ⟨rfl, f9⟩
  go_wp2_with (fail)
  refine (aw_wrong _).mono ?_
  rintro e w10 ⟨rfl, f10⟩
  have f90 := f9.then f10
  have HE9 := Lib.hid (f90.at_ HE8.out (fun x => x))
  have HY9 := Lib.hid (f90.at_ HY8.out (fun x => x))
  have R2f := Lib.hid (R2e.out.up f90)
  have R1g := Lib.hid (R1f.out.up f90)
  have F9 := Lib.hid (F8.out.then f90)
  clear f9 f10 f90 HE8 HY8 R2e R1f F8
  go_wp2_with (fail)
  have hb := heap_alloc_new w10 (.cells #[.int .u8 4, .int .u8 6, .int .u8 0, .int .u8 0, .int .u8 4, .int .u8 47, .int .u8 97, .int .u8 1] 5)
  have f : Fr NoB w10 (w10.alloc (.cells #[.int .u8 4, .int .u8 6, .int .u8 0, .int .u8 0, .int .u8 4, .int .u8 47, .int .u8 97, .int .u8 1] 5)) := (Fr.refl NoB w10).alloc _
  generalize w10.alloc (.cells #[.int .u8 4, .int .u8 6, .int .u8 0, .int .u8 0, .int .u8 4, .int .u8 47, .int .u8 97, .int .u8 1] 5) = w11 at hb f ⊢
  generalize w10.heap.size = N10 at hb ⊢
  refine (aw_same8 w11 _ _ _ _ _ _ _ (R1g.out.up f) (rd_block hb rfl)).mono ?_
  rintro e w12 ⟨rfl, n12, hw12⟩
  have f12 : Fr NoB w10 w12 := by rw [hw12]; exact f.drewN n12
  have HE12 := Lib.hid (f12.at_ HE9.out (fun x => x))
  have HY12 := Lib.hid (f12.at_ HY9.out (fun x => x))
  have R2g := Lib.hid (R2f.out.up f12)
  have F12 := Lib.hid (F9.out.then f12)
  clear hb f f12 hw12 HE9 HY9 R2f R1g F9
  go_wp2_with (fail)
  have hb := heap_alloc_new w12 (.cells #[.int .u8 2, .int .u8 1, .int .u8 4, .int .u8 47, .int .u8 97, .int .u8 14] 5)
  have f : Fr NoB w12 (w12.alloc (.cells #[.int .u8 2, .int .u8 1, .int .u8 4, .int .u8 47, .int .u8 97, .int .u8 14] 5)) := (Fr.refl NoB w12).alloc _
  generalize w12.alloc (.cells #[.int .u8 2, .int .u8 1, .int .u8 4, .int .u8 47, .int .u8 97, .int .u8 14] 5) = w13 at hb f ⊢
  generalize w12.heap.size = N12 at hb ⊢
  refine (aw_same6 w13 _ _ _ _ _ _ _ (R2g.out.up f) (rd_block hb rfl)).mono ?_
  rintro e w14 ⟨rfl, n14, hw14⟩
  have f14 : Fr NoB w12 w14 := by rw [hw14]; exact f.drewN n14
  have e3 := (cells_of (f14.at_ HE12.out (fun x => x)) 3).1
  have y1 := (cells_of (f14.at_ HY12.out (fun x => x)) 1).1
  rw [H1.out] at y1
  simp only [List.getElem?_toArray, List.getElem?_cons_zero, List.getElem?_cons_succ] at e3
  have F14 := Lib.hid (F12.out.then f14)
  clear hb f f14 hw14
  go_wp2
  go_ret
  exact ⟨rfl, F14.out⟩
end Go.Proofs.YtlckgkpgllhpbaaDoor
