/-
  Drz: the document's read with parts, its Get.
-/
import Derived.Test.YtmlmbahimklfiaaGreatDoorDry
import Derived.Test.YtmlmbahimklfiaaGreatDoorDrt
import Derived.Test.YtmlmbahimklfiaaGreatDoorDbl
namespace Go.Proofs.YtmlmbahimklfiaaGreatDoor
open Go.RowKit

/-- What read answers: a deed and its parts, all its lists are new. -/
def RdA (w w' : World) (lo pr : Nat) (st : RSt) (f : Fd) (l : List (Fd × Nat)) (e : Ending) : Prop :=
  ∃ pl, e = .returned (dval f pl l.length) ∧ RRd w' lo pr st ∧ Fr (OneB pr) w w' ∧ RdD w' w.heap.size w'.heap.size f pl l
theorem RdR.all {w w' : World} {lo pr : Nat} {st : RSt} {f : Fd} {e : Ending} (h : RdR w w' lo pr st f e) : RdA w w' lo pr st f [] e := by
  obtain ⟨pl, h1, h2, h3, h4, h5, -⟩ := h
  exact ⟨pl, h1, h2, h3, h4, h5, RdP.nil _ _ _ _⟩
theorem rp_over {w w' : World} {b q : Nat} {A : Option Addr} {l : List (Fd × Nat)} (h : RdP w (b + 2) w.heap.size A l) (f : Fr (OneB q) w w') (hq : q ≤ b + 1) : RdP w' (b + 2) w'.heap.size A l :=
  (h.fr f (Nat.le_refl _) (fun k h1 _ hx => by simp only [OneB] at hx; omega)).wide (Nat.le_refl _) f.size
theorem DX.doneA {w0 w : World} {lo pr B : Nat} {st : RSt} {cs : Array Value} (h : DX w0 w lo pr B st cs) (h1 : lo ≤ pr) (hB : w0.heap.size = B) (vs : Array Value) (pl : Pl) (f : Fd) (l : List (Fd × Nat)) (e : Ending) (he : e = .returned (dval f pl l.length)) (hd : Rd w (B + 2) w.heap.size pl.A f.data) (hm : RdM w (B + 2) w.heap.size pl.B f.c.2) (hp : RdP w (B + 2) w.heap.size pl.P l) : RdA w0 (w.setRow (B + 1) vs) lo pr st f l e := by
  have h2 := h.lo2
  have fs : Fr (OneB (B + 1)) w (w.setRow (B + 1) vs) := (Fr.refl (OneB (B + 1)) w).setRow (fun _ => rfl) _
  have hn : ∀ k, B + 2 ≤ k → k < w.heap.size → ¬ OneB (B + 1) k := fun k hk _ hx => by simp only [OneB] at hx; omega
  exact ⟨pl, he, h.a.fr fs (fun k _ hk hx => by simp only [OneB] at hx; omega) h1, h.fr.setRow (fun hx => absurd hx (by omega)) _, (hd.fr fs (Nat.le_refl _) hn).wide (by omega) fs.size, (hm.fr fs (Nat.le_refl _) hn).wide (by omega) fs.size, (hp.fr fs (Nat.le_refl _) hn).wide (by omega) fs.size⟩
set_option maxHeartbeats 3200000 in
set_option maxRecDepth 8000 in
theorem rr5d_calls (f : Fd) (lo pr : Nat) (st : RSt) (w : World) (hz : f = bareOf f) (ha : RRd w lo pr st) (h1 : lo ≤ pr) (hlim : RLim st) (hk : f.k = 5) :
    Calls Tryz.prog 73 #[.pointer (some ⟨pr, 0, none⟩), dval f pl0 0, .bool true] w fun e w' => RdA w w' lo pr (rdPsR (rCount (rdFd f st).2 500).1.toNat (rCount (rdFd f st).2 500).2).2 (rdFd f st).1 (rdPsR (rCount (rdFd f st).2 500).1.toNat (rCount (rdFd f st).2 500).2).1 e := by
  obtain ⟨z, k, s, t, x, m, path, data, ow, ve, cv, ti, er, cver, ms⟩ := f
  simp only [bareOf, Fd.mk.injEq, Prod.mk.injEq, true_and] at hz
  obtain ⟨rfl, rfl, rfl, rfl, rfl, rfl, rfl, rfl, rfl⟩ := hz
  simp only at hk
  subst hk
  have T0 := Lib.hid (DX.start ha (dcells ⟨z, 5, s, t, x, m, [], [], 0, 0, 0, 0, 0, (0, [])⟩ pl0 0) (dcells (bareF 0) pl0 0) rfl h1)
  obtain ⟨x0, s1, g0⟩ : ∃ x t, rInt st = (x, t) := ⟨_, _, rfl⟩
  have hc0 := fun W (r : RRd W lo pr st) => rrInt lo pr st W r
  have hlim1 : RLim s1 := by have := rInt_lim hlim; rw [g0] at this; exact this
  rw [g0] at hc0
  have hfin : rdFd ⟨z, 5, s, t, x, m, [], [], 0, 0, 0, 0, 0, (0, [])⟩ st = (⟨z, 5, s, t, x, m, [], [], x0, 0, 0, 0, 0, (0, [])⟩, s1) := by simp [rdFd, g0]
  rw [hfin]
  have hc1 := fun W (r : RRd W lo pr s1) => rread2_calls 500 lo pr s1 W r h1 hlim1 (by omega)
  generalize (rdPsR (rCount s1 500).1.toNat (rCount s1 500).2) = PR at *
  have HC1 := Lib.hid hc1
  have HC0 := Lib.hid hc0
  have HPB := Lib.hid ha.lt
  simp only [dval, dcells, pl0, bareF] at *
  clear ha hlim hc0 g0 hc1 hlim1 hfin
  go_enter Tryz.func73, Tryz.ntmps73
  go_wp2_with (fail)
  obtain ⟨B, hB⟩ : ∃ B, w.heap.size = B := ⟨_, rfl⟩
  have HB := Lib.hid hB
  rw [hB] at T0 HPB ⊢
  clear hB
  refine (HC0.out _ T0.out.a).mono ?_
  rintro e v0 ⟨rfl, a0, f0, -⟩
  have U0 := Lib.hid (T0.out.read a0 f0)
  clear a0 f0 T0
  have y := (cells_of U0.out.bx 8).1
  have n := (cells_of U0.out.bx 8).2
  simp only [List.getElem?_toArray, List.getElem?_cons_zero, List.getElem?_cons_succ] at y
  have T1 := Lib.hid (U0.out.set 8 (.int .i64 x0))
  simp only [List.setIfInBounds_toArray, List.set_cons_zero, List.set_cons_succ] at T1
  go_wp2_with (fail)
  clear y n
  generalize v0.setCell ⟨B, 8, none⟩ (.int .i64 x0) = t0 at *
  have HS : Hid (B + 2 ≤ _) := Lib.hid (by obtain ⟨_, h, _⟩ := T1.out.rv; exact Lib.lt_of_heap h)
  refine (HC1.out _ T1.out.a).mono ?_
  rintro e v1 ⟨V, L, rfl, hp, hl⟩
  obtain ⟨PA, pc, rfl, -, -⟩ := own_form4 hp.own
  have HRP := Lib.hid (hp.rd.wide HS.out (Nat.le_refl _))
  have U1 := Lib.hid (T1.out.read hp.a hp.fr)
  have HPL := Lib.hid hl
  clear hp hl T1 HC1 HS
  have y := (cells_of U1.out.bx 15).1
  have n := (cells_of U1.out.bx 15).2
  simp only [List.getElem?_toArray, List.getElem?_cons_zero, List.getElem?_cons_succ] at y
  have T2 := Lib.hid (U1.out.set 15 (.slice PA L.length pc))
  simp only [List.setIfInBounds_toArray, List.set_cons_zero, List.set_cons_succ] at T2
  have HRP2 := Lib.hid (rp_over HRP.out ((Fr.refl (OneB B) v1).setCell (p := ⟨B, 15, none⟩) (fun _ => rfl) (.slice PA L.length pc)) (Nat.le_succ _))
  clear HRP
  go_wp2_with (first | (refine wpList_load_row rfl 31 _ rfl B rfl _ _ _ _ T2.out.bx Tryz.underlying31 rfl size16 ?_) | (with_reducible refine held_store (ty := 31) ?_) | fail)
  clear y n
  unfold Held
  obtain ⟨ZC, hrv, hzs⟩ := T2.out.rv
  have TE := Lib.hid T2.out
  have hrv2 := hrv
  refine wpList_store_row rfl 31 _ _ rfl (B + 1) #[.int .i64 z, .int .u8 5, .int .i64 s, .int .i64 t, .int .i64 x, .int .i64 m, .string ⟨#[]⟩, .slice none 0 0, .int .i64 x0, .int .i64 0, .int .i64 0, .int .i64 0, .int .i64 0, .int .i64 0, .slice none 0 0, .slice PA L.length pc] ?_ ?_ _ _ hrv size16 hzs (by simp [Value.oneCell']) ?_
  · rfl
  · rfl
  go_wp2
  refine bodyPost_ret (v := .agg #[.int .i64 z, .int .u8 5, .int .i64 s, .int .i64 t, .int .i64 x, .int .i64 m, .string ⟨#[]⟩, .slice none 0 0, .int .i64 x0, .int .i64 0, .int .i64 0, .int .i64 0, .int .i64 0, .int .i64 0, .slice none 0 0, .slice PA L.length pc]) (results_cell_row (fn := Tryz.f73) (p := 6) (ty := 31) (by kernel_rfl) _ _ (B + 1) 31 _ _ _ rfl (setRow_heap _ _ _ _ _ _ hrv2) Tryz.underlying31 rfl (by kernel_rfl)) rfl ?_
  rw [HPL.out]
  exact TE.out.doneA h1 HB.out #[.int .i64 z, .int .u8 5, .int .i64 s, .int .i64 t, .int .i64 x, .int .i64 m, .string ⟨#[]⟩, .slice none 0 0, .int .i64 x0, .int .i64 0, .int .i64 0, .int .i64 0, .int .i64 0, .int .i64 0, .slice none 0 0, .slice PA L.length pc] ⟨none, 0, none, 0, PA, pc⟩ _ _ _ (by rw [List.length_map]; rfl) (Rd.nil _ _ _ _) (RdM.nil' _ _ _ _) HRP2.out
set_option maxHeartbeats 3200000 in
set_option maxRecDepth 8000 in
theorem rr8d_calls (f : Fd) (lo pr : Nat) (st : RSt) (w : World) (hz : f = bareOf f) (ha : RRd w lo pr st) (h1 : lo ≤ pr) (hlim : RLim st) (hk : f.k = 8) :
    Calls Tryz.prog 73 #[.pointer (some ⟨pr, 0, none⟩), dval f pl0 0, .bool true] w fun e w' => RdA w w' lo pr (rdPsR (rCount (rdFd f st).2 16).1.toNat (rCount (rdFd f st).2 16).2).2 (rdFd f st).1 (rdPsR (rCount (rdFd f st).2 16).1.toNat (rCount (rdFd f st).2 16).2).1 e := by
  obtain ⟨z, k, s, t, x, m, path, data, ow, ve, cv, ti, er, cver, ms⟩ := f
  simp only [bareOf, Fd.mk.injEq, Prod.mk.injEq, true_and] at hz
  obtain ⟨rfl, rfl, rfl, rfl, rfl, rfl, rfl, rfl, rfl⟩ := hz
  simp only at hk
  subst hk
  have T0 := Lib.hid (DX.start ha (dcells ⟨z, 8, s, t, x, m, [], [], 0, 0, 0, 0, 0, (0, [])⟩ pl0 0) (dcells (bareF 0) pl0 0) rfl h1)
  have hlim1 := hlim
  have hfin : rdFd ⟨z, 8, s, t, x, m, [], [], 0, 0, 0, 0, 0, (0, [])⟩ st = (⟨z, 8, s, t, x, m, [], [], 0, 0, 0, 0, 0, (0, [])⟩, st) := by simp [rdFd]
  rw [hfin]
  have hc1 := fun W (r : RRd W lo pr st) => rread2_calls 16 lo pr st W r h1 hlim1 (by omega)
  generalize (rdPsR (rCount st 16).1.toNat (rCount st 16).2) = PR at *
  have HC1 := Lib.hid hc1
  have HPB := Lib.hid ha.lt
  simp only [dval, dcells, pl0, bareF] at *
  clear ha hlim hc1 hlim1 hfin
  go_enter Tryz.func73, Tryz.ntmps73
  go_wp2_with (fail)
  obtain ⟨B, hB⟩ : ∃ B, w.heap.size = B := ⟨_, rfl⟩
  have HB := Lib.hid hB
  rw [hB] at T0 HPB ⊢
  clear hB
  have HS : Hid (B + 2 ≤ _) := Lib.hid (by obtain ⟨_, h, _⟩ := T0.out.rv; exact Lib.lt_of_heap h)
  refine (HC1.out _ T0.out.a).mono ?_
  rintro e v1 ⟨V, L, rfl, hp, hl⟩
  obtain ⟨PA, pc, rfl, -, -⟩ := own_form4 hp.own
  have HRP := Lib.hid (hp.rd.wide HS.out (Nat.le_refl _))
  have U1 := Lib.hid (T0.out.read hp.a hp.fr)
  have HPL := Lib.hid hl
  clear hp hl T0 HC1 HS
  have y := (cells_of U1.out.bx 15).1
  have n := (cells_of U1.out.bx 15).2
  simp only [List.getElem?_toArray, List.getElem?_cons_zero, List.getElem?_cons_succ] at y
  have T2 := Lib.hid (U1.out.set 15 (.slice PA L.length pc))
  simp only [List.setIfInBounds_toArray, List.set_cons_zero, List.set_cons_succ] at T2
  have HRP2 := Lib.hid (rp_over HRP.out ((Fr.refl (OneB B) v1).setCell (p := ⟨B, 15, none⟩) (fun _ => rfl) (.slice PA L.length pc)) (Nat.le_succ _))
  clear HRP
  go_wp2_with (first | (refine wpList_load_row rfl 31 _ rfl B rfl _ _ _ _ T2.out.bx Tryz.underlying31 rfl size16 ?_) | (with_reducible refine held_store (ty := 31) ?_) | fail)
  clear y n
  unfold Held
  obtain ⟨ZC, hrv, hzs⟩ := T2.out.rv
  have TE := Lib.hid T2.out
  have hrv2 := hrv
  refine wpList_store_row rfl 31 _ _ rfl (B + 1) #[.int .i64 z, .int .u8 8, .int .i64 s, .int .i64 t, .int .i64 x, .int .i64 m, .string ⟨#[]⟩, .slice none 0 0, .int .i64 0, .int .i64 0, .int .i64 0, .int .i64 0, .int .i64 0, .int .i64 0, .slice none 0 0, .slice PA L.length pc] ?_ ?_ _ _ hrv size16 hzs (by simp [Value.oneCell']) ?_
  · rfl
  · rfl
  go_wp2
  refine bodyPost_ret (v := .agg #[.int .i64 z, .int .u8 8, .int .i64 s, .int .i64 t, .int .i64 x, .int .i64 m, .string ⟨#[]⟩, .slice none 0 0, .int .i64 0, .int .i64 0, .int .i64 0, .int .i64 0, .int .i64 0, .int .i64 0, .slice none 0 0, .slice PA L.length pc]) (results_cell_row (fn := Tryz.f73) (p := 6) (ty := 31) (by kernel_rfl) _ _ (B + 1) 31 _ _ _ rfl (setRow_heap _ _ _ _ _ _ hrv2) Tryz.underlying31 rfl (by kernel_rfl)) rfl ?_
  rw [HPL.out]
  exact TE.out.doneA h1 HB.out #[.int .i64 z, .int .u8 8, .int .i64 s, .int .i64 t, .int .i64 x, .int .i64 m, .string ⟨#[]⟩, .slice none 0 0, .int .i64 0, .int .i64 0, .int .i64 0, .int .i64 0, .int .i64 0, .int .i64 0, .slice none 0 0, .slice PA L.length pc] ⟨none, 0, none, 0, PA, pc⟩ _ _ _ (by rw [List.length_map]; rfl) (Rd.nil _ _ _ _) (RdM.nil' _ _ _ _) HRP2.out
/-- What the document reads of a kind, parts and all. -/
def rdTailR (f : Fd) (st : RSt) : (Fd × List (Fd × Nat)) × RSt :=
  if f.k = 5 then (((rdFd f st).1, (rdPsR (rCount (rdFd f st).2 500).1.toNat (rCount (rdFd f st).2 500).2).1), (rdPsR (rCount (rdFd f st).2 500).1.toNat (rCount (rdFd f st).2 500).2).2)
  else if f.k = 8 then (((rdFd f st).1, (rdPsR (rCount (rdFd f st).2 16).1.toNat (rCount (rdFd f st).2 16).2).1), (rdPsR (rCount (rdFd f st).2 16).1.toNat (rCount (rdFd f st).2 16).2).2)
  else (((rdFd f st).1, []), (rdFd f st).2)
theorem rdDeedR_tail (b : List UInt8) : rdDeedR b = rdTailR (rdHead b).1 (rdHead b).2 := by
  unfold rdDeedR rdTailR
  rfl
theorem rread_all (f : Fd) (lo pr : Nat) (st : RSt) (w : World) (hf : f.Ok) (hz : f = bareOf f) (ha : RRd w lo pr st) (h1 : lo ≤ pr) (hlim : RLim st) :
    Calls Tryz.prog 73 #[.pointer (some ⟨pr, 0, none⟩), dval f pl0 0, .bool true] w fun e w' => RdA w w' lo pr (rdTailR f st).2 (rdTailR f st).1.1 (rdTailR f st).1.2 e := by
  unfold rdTailR
  by_cases h5 : f.k = 5
  · rw [if_pos h5]
    exact rr5d_calls f lo pr st w hz ha h1 hlim h5
  rw [if_neg h5]
  by_cases h8 : f.k = 8
  · rw [if_pos h8]
    exact rr8d_calls f lo pr st w hz ha h1 hlim h8
  rw [if_neg h8]
  exact (rrFlat f true lo pr st w hf hz ha h1 hlim (fun h => by omega)).mono fun e w' h => h.all
theorem rdPsR_ok (n : Nat) (st : RSt) : ∀ q ∈ (rdPsR n st).1, q.1.Ok ∧ q.2 = 0 := by
  induction n generalizing st with
  | zero => intro q hq; simp [rdPsR] at hq
  | succ n ih =>
    rw [rdPsR]
    split
    · intro q hq
      rcases List.mem_cons.1 hq with rfl | hq
      · exact ⟨rdPart_ok _, rfl⟩
      · exact ih _ q hq
    · intro q hq; simp at hq
theorem rdPsR_len (n : Nat) (st : RSt) : (rdPsR n st).1.length ≤ n := by
  induction n generalizing st with
  | zero => simp [rdPsR]
  | succ n ih =>
    rw [rdPsR]
    split
    · have := ih (rdPart st).2; simp only [List.length_cons]; omega
    · simp
theorem rdTailR_fine {f : Fd} (hf : f.Ok) (st : RSt) : Fine (rdTailR f st).1.1 (rdTailR f st).1.2 := by
  unfold rdTailR
  split
  · have h1 := rCount_range (rdFd f st).2 500 (by omega)
    have h2 := rdPsR_len (rCount (rdFd f st).2 500).1.toNat (rCount (rdFd f st).2 500).2
    exact ⟨rdFd_ok hf st, rdPsR_ok _ _, by simp only; omega⟩
  · split
    · have h1 := rCount_range (rdFd f st).2 16 (by omega)
      have h2 := rdPsR_len (rCount (rdFd f st).2 16).1.toNat (rCount (rdFd f st).2 16).2
      exact ⟨rdFd_ok hf st, rdPsR_ok _ _, by simp only; omega⟩
    · exact ⟨rdFd_ok hf st, fun q hq => absurd hq (by simp), by simp⟩

/-- Get under way: the reader, the deed's box, the result's. -/
structure GX (w0 w : World) (lo pr E RV : Nat) (st : RSt) (cs : Array Value) : Prop where
  a : RRd w lo pr st
  fr : Fr NoB w0 w
  bx : w.heap[E]? = some (.cells cs 31 (0, 0))
  rv : ∃ zs, w.heap[RV]? = some (.cells zs 31 (0, 0)) ∧ zs.size = 16
  h : w0.heap.size ≤ RV ∧ RV < lo ∧ lo ≤ pr ∧ pr < E
theorem GX.read {w0 w w1 : World} {lo pr E RV : Nat} {st st1 : RSt} {cs : Array Value} (h : GX w0 w lo pr E RV st cs) (a : RRd w1 lo pr st1) (f : Fr (OneB pr) w w1) : GX w0 w1 lo pr E RV st1 cs := by
  have hh := h.h
  exact ⟨a, h.fr.upE f (fun k hk => by simp only [OneB] at hk; omega), f.at_ h.bx (by simp only [OneB]; omega), h.rv.imp fun _ x => ⟨f.at_ x.1 (by simp only [OneB]; omega), x.2⟩, hh⟩
theorem GX.set {w0 w : World} {lo pr E RV : Nat} {st : RSt} {cs : Array Value} (h : GX w0 w lo pr E RV st cs) (i : Nat) (u : Value) : GX w0 (w.setCell ⟨E, i, none⟩ u) lo pr E RV st (cs.setIfInBounds i u) := by
  have hh := h.h
  have f : Fr (OneB E) w (w.setCell ⟨E, i, none⟩ u) := (Fr.refl (OneB E) w).setCell (p := ⟨E, i, none⟩) (fun _ => rfl) u
  exact ⟨h.a.fr f (fun k _ hk hx => by simp only [OneB] at hx; omega) hh.2.2.1, h.fr.upE f (fun k hk => by simp only [OneB] at hk; omega), by rw [heap_set h.bx], h.rv.imp fun _ x => ⟨f.at_ x.1 (by simp only [OneB]; omega), x.2⟩, hh⟩
theorem GX.setRow {w0 w : World} {lo pr E RV : Nat} {st : RSt} {cs : Array Value} (h : GX w0 w lo pr E RV st cs) (vs : Array Value) : GX w0 (w.setRow E vs) lo pr E RV st vs := by
  have hh := h.h
  have f : Fr (OneB E) w (w.setRow E vs) := (Fr.refl (OneB E) w).setRow (fun _ => rfl) _
  exact ⟨h.a.fr f (fun k _ hk hx => by simp only [OneB] at hx; omega) hh.2.2.1, h.fr.upE f (fun k hk => by simp only [OneB] at hk; omega), setRow_heap _ _ _ _ _ _ h.bx, h.rv.imp fun _ x => ⟨f.at_ x.1 (by simp only [OneB]; omega), x.2⟩, hh⟩
theorem GX.keep {w0 w w1 : World} {lo pr E RV : Nat} {st : RSt} {cs : Array Value} (h : GX w0 w lo pr E RV st cs) (f : Fr NoB w w1) : GX w0 w1 lo pr E RV st cs :=
  ⟨h.a.fr f (fun _ _ _ x => x) h.h.2.2.1, h.fr.then f, f.at_ h.bx (fun x => x), h.rv.imp fun _ x => ⟨f.at_ x.1 (fun x => x), x.2⟩, h.h⟩
theorem rdd_over {w w' : World} {q n : Nat} {f : Fd} {p : Pl} {l : List (Fd × Nat)} (h : RdD w n w.heap.size f p l) (fr : Fr (OneB q) w w') (hq : q < n) : RdD w' n w'.heap.size f p l := by
  have h2 := h.fr fr (Nat.le_refl _) (fun k h1 _ hx => by simp only [OneB] at hx; omega)
  exact ⟨h2.data.wide (Nat.le_refl _) fr.size, h2.ms.wide (Nat.le_refl _) fr.size, h2.parts.wide (Nat.le_refl _) fr.size⟩
theorem c_right {w : World} {cs : Array Value} {f : Fd} {l : List (Fd × Nat)} (h : IsD w cs f l) (hf : Fine f l) (hM : Max w) :
    Calls Tryz.prog 54 #[.agg cs] w fun e w' => e = .returned (.bool (decide (Right f l))) ∧ Fr NoB w w' := by
  obtain ⟨p, lo, hi, rfl, h2, h3⟩ := h
  exact rright_calls f p l lo hi w hf.ok hf.len hf.wide h3 h2 hM

/-- Cells that are a deed's, whose lists lie from block n on. -/
def IsL (w : World) (n : Nat) (cs : Array Value) (f : Fd) (l : List (Fd × Nat)) : Prop := ∃ p lo hi, n ≤ lo ∧ cs = dcells f p l.length ∧ hi ≤ w.heap.size ∧ RdD w lo hi f p l
theorem IsL.is {w : World} {n : Nat} {cs : Array Value} {f : Fd} {l : List (Fd × Nat)} (h : IsL w n cs f l) : IsD w cs f l := by
  obtain ⟨p, lo, hi, -, h1, h2, h3⟩ := h
  exact ⟨p, lo, hi, h1, h2, h3⟩
theorem zcs_low (w : World) (n : Nat) : IsL w n zcs (bareF 0) [] := ⟨pl0, n, 0, Nat.le_refl _, rfl, Nat.zero_le _, Rd.nil _ _ _ _, RdM.nil' _ _ _ _, RdP.nil _ _ _ _⟩

set_option maxRecDepth 8000 in
set_option maxHeartbeats 6400000 in
theorem rdget_low (A : Option Addr) (b : List UInt8) (c lo hi : Nat) (w : World) (h : Rd w lo hi A b) (hh : hi ≤ w.heap.size) (hl : b.length ≤ 140737488355328) (hM : Max w) :
    Calls Tryz.prog 32 #[.slice A b.length c] w fun e w' => ∃ cs f l zz, e = .returned (.tuple #[.agg cs, .int .i64 zz]) ∧ ((getD b = some (f, l) ∧ zz = 0) ∨ (getD b = none ∧ f = bareF 0 ∧ l = [] ∧ zz = 4)) ∧ IsL w' w.heap.size cs f l ∧ Fr NoB w w' := by
  have HGD : Hid (getD b = if rWhole (rdDeedR b).2 = true ∧ Right (rdDeedR b).1.1 (rdDeedR b).1.2 then some (rdDeedR b).1 else none) := (getDR_eq b).symm
  have hdt := rdDeedR_tail b
  obtain ⟨x0, s0, g0⟩ : ∃ x t, rByte (some b) = (x, t) := ⟨_, _, rfl⟩
  obtain ⟨x1, s1, g1⟩ : ∃ x t, rInt s0 = (x, t) := ⟨_, _, rfl⟩
  obtain ⟨x2, s2, g2⟩ : ∃ x t, rInt s1 = (x, t) := ⟨_, _, rfl⟩
  obtain ⟨x3, s3, g3⟩ : ∃ x t, rInt s2 = (x, t) := ⟨_, _, rfl⟩
  obtain ⟨x4, s4, g4⟩ : ∃ x t, rInt s3 = (x, t) := ⟨_, _, rfl⟩
  obtain ⟨x5, s5, g5⟩ : ∃ x t, rInt s4 = (x, t) := ⟨_, _, rfl⟩
  have hhd : rdHead b = (⟨x1, x0.toNat, x2, x3, x4, x5, [], [], 0, 0, 0, 0, 0, (0, [])⟩, s5) := by simp [rdHead, g0, g1, g2, g3, g4, g5]
  have hhok := rdHead_ok b
  rw [hhd] at hdt hhok
  simp only at hdt hhok
  have hlim0 : RLim s0 := by have := rByte_lim (st := some b) hl; rw [g0] at this; exact this
  have hlim5 : RLim s5 := by
    have h1 := rInt_lim hlim0; rw [g1] at h1
    have h2 := rInt_lim h1; rw [g2] at h2
    have h3 := rInt_lim h2; rw [g3] at h3
    have h4 := rInt_lim h3; rw [g4] at h4
    have h5 := rInt_lim h4; rw [g5] at h5
    exact h5
  have hfine := rdTailR_fine hhok s5
  rw [← hdt] at hfine
  have hrd := fun W lo p (r : RRd W lo p s5) (h1 : lo ≤ p) => rread_all ⟨x1, x0.toNat, x2, x3, x4, x5, [], [], 0, 0, 0, 0, 0, (0, [])⟩ lo p s5 W hhok rfl r h1 hlim5
  rw [← hdt] at hrd
  obtain ⟨rl, hrl⟩ : ∃ rl, rdDeedR b = rl := ⟨_, rfl⟩
  rw [hrl] at HGD hfine hrd
  obtain ⟨⟨F, L⟩, st⟩ := rl
  simp only at HGD hfine hrd
  have HFI := Lib.hid hfine
  have HRD := Lib.hid hrd
  have hb0 := fun W lo p (r : RRd W lo p (some b)) => rrByte lo p (some b) W r
  rw [g0] at hb0
  have HB0 := Lib.hid hb0
  have hb1 := fun W lo p (r : RRd W lo p s0) => rrInt lo p s0 W r
  rw [g1] at hb1
  have HB1 := Lib.hid hb1
  have hb2 := fun W lo p (r : RRd W lo p s1) => rrInt lo p s1 W r
  rw [g2] at hb2
  have HB2 := Lib.hid hb2
  have hb3 := fun W lo p (r : RRd W lo p s2) => rrInt lo p s2 W r
  rw [g3] at hb3
  have HB3 := Lib.hid hb3
  have hb4 := fun W lo p (r : RRd W lo p s3) => rrInt lo p s3 W r
  rw [g4] at hb4
  have HB4 := Lib.hid hb4
  have hb5 := fun W lo p (r : RRd W lo p s4) => rrInt lo p s4 W r
  rw [g5] at hb5
  have HB5 := Lib.hid hb5
  have HR := Lib.hid h
  have HM := Lib.hid hM
  clear h hM hb0 hb1 hb2 hb3 hb4 hb5 g0 g1 g2 g3 g4 g5 hlim0 hlim5 hhd hhok hdt hrl hfine hrd
  go_enter Tryz.func32, Tryz.ntmps32
  go_wp2_with (fail)
  have F0 := Lib.hid ((Fr.refl NoB w).alloc (.cells #[.int .i64 0, .int .u8 0, .int .i64 0, .int .i64 0, .int .i64 0, .int .i64 0, .string ⟨#[]⟩, .slice none 0 0, .int .i64 0, .int .i64 0, .int .i64 0, .int .i64 0, .int .i64 0, .int .i64 0, .slice none 0 0, .slice none 0 0] 31))
  have HRV := Lib.hid (heap_alloc_new w (.cells #[.int .i64 0, .int .u8 0, .int .i64 0, .int .i64 0, .int .i64 0, .int .i64 0, .string ⟨#[]⟩, .slice none 0 0, .int .i64 0, .int .i64 0, .int .i64 0, .int .i64 0, .int .i64 0, .int .i64 0, .slice none 0 0, .slice none 0 0] 31))
  have HSW : Hid ((w.alloc (.cells #[.int .i64 0, .int .u8 0, .int .i64 0, .int .i64 0, .int .i64 0, .int .i64 0, .string ⟨#[]⟩, .slice none 0 0, .int .i64 0, .int .i64 0, .int .i64 0, .int .i64 0, .int .i64 0, .int .i64 0, .slice none 0 0, .slice none 0 0] 31)).heap.size = w.heap.size + 1) := by show _ = _; simp
  generalize w.alloc (.cells #[.int .i64 0, .int .u8 0, .int .i64 0, .int .i64 0, .int .i64 0, .int .i64 0, .string ⟨#[]⟩, .slice none 0 0, .int .i64 0, .int .i64 0, .int .i64 0, .int .i64 0, .int .i64 0, .int .i64 0, .slice none 0 0, .slice none 0 0] 31) = wb at F0 HRV HSW ⊢
  obtain ⟨RV, hRV⟩ : ∃ RV, w.heap.size = RV := ⟨_, rfl⟩
  have HWR := Lib.hid hRV
  rw [hRV] at HRV HSW ⊢
  clear hRV
  refine (rrNew A b c lo hi wb (HR.out.fr F0.out hh (fun _ _ _ x => x)) (Nat.le_trans hh F0.out.size) hl).mono ?_
  rintro e w1 ⟨p, rfl, q1, q2, q3, -⟩
  have Q1 := Lib.hid q1
  have Q2 := Lib.hid q2
  have Q3 := Lib.hid q3
  clear q1 q2 q3 HR
  go_wp2_with (fail)
  refine (HB0.out _ _ _ Q2.out).mono ?_
  rintro e w2 ⟨rfl, a2, f2, -⟩
  have A2 := Lib.hid a2
  have F2 := Lib.hid f2
  clear a2 f2 Q2 HB0
  go_wp2_with (fail)
  obtain ⟨w3, hw3⟩ : ∃ w3, w2.alloc (.cells (dcells (bareF x0.toNat) pl0 0) 31) = w3 := ⟨_, rfl⟩
  have hfr2 : Fr NoB wb w2 := Q3.out.upE F2.out (fun k hk => by simp only [OneB] at hk; have := Q1.out; omega)
  have fA : Fr NoB w2 w3 := by rw [← hw3]; exact (Fr.refl NoB w2).alloc _
  have T3 : Hid (GX w w3 wb.heap.size p w2.heap.size RV s0 (dcells (bareF x0.toNat) pl0 0)) := by
    refine ⟨A2.out.fr fA (fun _ _ _ x => x) Q1.out, F0.out.then (hfr2.then fA), by rw [← hw3]; exact heap_alloc_new w2 _, ⟨_, (hfr2.then fA).at_ HRV.out (fun x => x), rfl⟩, ?_⟩
    have h1 := HWR.out
    have h2 := HSW.out
    have h3 := Q1.out
    have h4 := A2.out.lt
    omega
  simp only [dcells, bareF, pl0, List.length_nil] at T3 hw3
  rw [hw3]
  clear hw3 F2 A2 Q3 hfr2 fA HRV HSW
  obtain ⟨E, hE⟩ : ∃ E, w2.heap.size = E := ⟨_, rfl⟩
  rw [hE] at T3 ⊢
  clear hE
  refine (HB1.out _ _ _ T3.out.a).mono ?_
  rintro e u0 ⟨rfl, a4, f4, -⟩
  have U0 := Lib.hid (T3.out.read a4 f4)
  clear a4 f4 HB1 T3
  have y := (cells_of U0.out.bx 0).1
  have n := (cells_of U0.out.bx 0).2
  simp only [List.getElem?_toArray, List.getElem?_cons_zero] at y
  have S0 := Lib.hid (U0.out.set 0 (.int .i64 x1))
  simp only [List.setIfInBounds_toArray, List.set_cons_zero] at S0
  go_wp2_with (fail)
  clear y n
  generalize u0.setCell ⟨E, 0, none⟩ (.int .i64 x1) = t0 at *
  refine (HB2.out _ _ _ S0.out.a).mono ?_
  rintro e u1 ⟨rfl, a4, f4, -⟩
  have U1 := Lib.hid (S0.out.read a4 f4)
  clear a4 f4 HB2 S0
  have y := (cells_of U1.out.bx 2).1
  have n := (cells_of U1.out.bx 2).2
  simp only [List.getElem?_toArray, List.getElem?_cons_zero, List.getElem?_cons_succ] at y
  have S1 := Lib.hid (U1.out.set 2 (.int .i64 x2))
  simp only [List.setIfInBounds_toArray, List.set_cons_zero, List.set_cons_succ] at S1
  go_wp2_with (fail)
  clear y n
  generalize u1.setCell ⟨E, 2, none⟩ (.int .i64 x2) = t1 at *
  refine (HB3.out _ _ _ S1.out.a).mono ?_
  rintro e u2 ⟨rfl, a4, f4, -⟩
  have U2 := Lib.hid (S1.out.read a4 f4)
  clear a4 f4 HB3 S1
  have y := (cells_of U2.out.bx 3).1
  have n := (cells_of U2.out.bx 3).2
  simp only [List.getElem?_toArray, List.getElem?_cons_zero, List.getElem?_cons_succ] at y
  have S2 := Lib.hid (U2.out.set 3 (.int .i64 x3))
  simp only [List.setIfInBounds_toArray, List.set_cons_zero, List.set_cons_succ] at S2
  go_wp2_with (fail)
  clear y n
  generalize u2.setCell ⟨E, 3, none⟩ (.int .i64 x3) = t2 at *
  refine (HB4.out _ _ _ S2.out.a).mono ?_
  rintro e u3 ⟨rfl, a4, f4, -⟩
  have U3 := Lib.hid (S2.out.read a4 f4)
  clear a4 f4 HB4 S2
  have y := (cells_of U3.out.bx 4).1
  have n := (cells_of U3.out.bx 4).2
  simp only [List.getElem?_toArray, List.getElem?_cons_zero, List.getElem?_cons_succ] at y
  have S3 := Lib.hid (U3.out.set 4 (.int .i64 x4))
  simp only [List.setIfInBounds_toArray, List.set_cons_zero, List.set_cons_succ] at S3
  go_wp2_with (fail)
  clear y n
  generalize u3.setCell ⟨E, 4, none⟩ (.int .i64 x4) = t3 at *
  refine (HB5.out _ _ _ S3.out.a).mono ?_
  rintro e u4 ⟨rfl, a4, f4, -⟩
  have U4 := Lib.hid (S3.out.read a4 f4)
  clear a4 f4 HB5 S3
  have y := (cells_of U4.out.bx 5).1
  have n := (cells_of U4.out.bx 5).2
  simp only [List.getElem?_toArray, List.getElem?_cons_zero, List.getElem?_cons_succ] at y
  have S4 := Lib.hid (U4.out.set 5 (.int .i64 x5))
  simp only [List.setIfInBounds_toArray, List.set_cons_zero, List.set_cons_succ] at S4
  have hz1 := HRD.out _ _ _ S4.out.a S4.out.h.2.2.1
  simp only [dval, dcells, pl0, List.length_nil] at hz1
  have HZ1 := Lib.hid hz1
  clear hz1 HRD
  go_wp2_with (first | (refine wpList_load_row rfl 31 _ rfl E rfl _ _ _ _ S4.out.bx Tryz.underlying31 rfl size16 ?_) | fail)
  clear y n
  refine HZ1.out.mono ?_
  rintro e w6 ⟨pl, rfl, a6, f6, rd6⟩
  have T6 := Lib.hid (S4.out.read a6 f6)
  have HEB := Lib.hid (Lib.lt_of_heap S4.out.bx)
  have RD6 : Hid (RdD w6 (E + 1) w6.heap.size F pl L) := ⟨rd6.data.wide HEB.out (Nat.le_refl _), rd6.ms.wide HEB.out (Nat.le_refl _), rd6.parts.wide HEB.out (Nat.le_refl _)⟩
  clear a6 f6 rd6 S4 HZ1 HEB
  obtain ⟨xs, hxs⟩ : ∃ xs, dcells F pl L.length = xs := ⟨_, rfl⟩
  have X16 : Hid (xs.size = 16) := by rw [← hxs]; rfl
  have XON : Hid (xs.all (·.oneCell') = true) := by rw [← hxs]; simp [dcells, Value.oneCell', Hid]
  have HXS := Lib.hid hxs
  rw [show dval F pl L.length = .agg xs by rw [← hxs]; rfl]
  clear hxs
  go_wp2_with (first | (with_reducible refine held_store (ty := 31) ?_) | fail)
  unfold Held
  refine wpList_store_row rfl 31 _ _ rfl E xs ?_ ?_ _ _ T6.out.bx (size_of X16.out) X16.out.symm XON.out ?_
  · rfl
  · rfl
  have T7 := Lib.hid (T6.out.setRow xs)
  have RD7 := Lib.hid (rdd_over RD6.out ((Fr.refl (OneB E) w6).setRow (fun _ => rfl) xs) (Nat.lt_succ_self _))
  clear T6 RD6
  generalize w6.setRow E xs = w7 at *
  have HIS : Hid (IsD w7 xs F L) := ⟨pl, _, _, HXS.out.symm, Nat.le_refl _, RD7.out⟩
  have hwc := rrWhole wb.heap.size p st w7 T7.out.a
  by_cases hwh : rWhole st = true
  rotate_left
  · as_aux_lemma =>
    rw [Bool.eq_false_iff.2 hwh] at hwc
    have hnone : getD b = none := by rw [HGD.out, if_neg (fun hx => hwh hx.1)]
    have HNONE := Lib.hid hnone
    clear hnone HGD hwh
    go_wp2_with (first | ((with_reducible refine hwc.mono ?_); rintro e w8 ⟨rfl, rfl⟩) | (with_reducible refine held_store (ty := 31) ?_) | fail)
    unfold Held
    obtain ⟨ZS, hrv, hzs⟩ := T7.out.rv
    have hrv2 := hrv
    refine wpList_store_row rfl 31 _ _ rfl RV #[.int .i64 0, .int .u8 0, .int .i64 0, .int .i64 0, .int .i64 0, .int .i64 0, .string ⟨#[]⟩, .slice none 0 0, .int .i64 0, .int .i64 0, .int .i64 0, .int .i64 0, .int .i64 0, .int .i64 0, .slice none 0 0, .slice none 0 0] ?_ ?_ _ _ hrv size16 hzs (by simp [Value.oneCell']) ?_
    · rfl
    · rfl
    go_wp2
    refine bodyPost_ret (v := .tuple #[.agg #[.int .i64 0, .int .u8 0, .int .i64 0, .int .i64 0, .int .i64 0, .int .i64 0, .string ⟨#[]⟩, .slice none 0 0, .int .i64 0, .int .i64 0, .int .i64 0, .int .i64 0, .int .i64 0, .int .i64 0, .slice none 0 0, .slice none 0 0], .int .i64 4]) (results_row_tmp (fn := Tryz.f32) (p := 2) (u := 3) (ty := 31) (by kernel_rfl) _ _ RV 31 _ _ _ rfl (setRow_heap _ _ _ _ _ _ hrv2) Tryz.underlying31 rfl (by kernel_rfl)) rfl ?_
    have hh9 := T7.out.h
    exact ⟨#[.int .i64 0, .int .u8 0, .int .i64 0, .int .i64 0, .int .i64 0, .int .i64 0, .string ⟨#[]⟩, .slice none 0 0, .int .i64 0, .int .i64 0, .int .i64 0, .int .i64 0, .int .i64 0, .int .i64 0, .slice none 0 0, .slice none 0 0], bareF 0, [], 4, rfl, .inr ⟨HNONE.out, rfl, rfl, rfl⟩, zcs_low _ _, T7.out.fr.setRow (fun hx => absurd hx (by omega)) _⟩
  · rw [hwh] at hwc
    have hcr := c_right HIS.out HFI.out (HM.out.fr T7.out.fr)
    by_cases hright : Right F L
    · as_aux_lemma =>
      rw [decide_eq_true hright] at hcr
      have hsome : getD b = some (F, L) := by rw [HGD.out, if_pos ⟨hwh, hright⟩]
      have HSOME := Lib.hid hsome
      clear hsome HGD hwh hright
      go_wp2_with (first | ((with_reducible refine hwc.mono ?_); rintro e w8 ⟨rfl, rfl⟩) | (with_reducible refine held_load_on (ty := 31) ?_) | fail)
      unfold Held
      refine wpList_load_on (by rfl) 31 _ rfl E rfl _ _ _ _ T7.out.bx Tryz.underlying31 rfl (size_of X16.out) ?_
      go_wp2_with (fail)
      refine hcr.mono ?_
      rintro e w9 ⟨rfl, f9⟩
      have T9 := Lib.hid (T7.out.keep f9)
      have IS9 := Lib.hid (RD7.out.fr f9 (Nat.le_refl _) (fun _ _ _ x => x))
      have HS9 := Lib.hid f9.size
      clear f9 T7 RD7 hcr hwc
      go_wp2_with (first | (refine wpList_load_row rfl 31 _ rfl E rfl _ _ _ _ T9.out.bx Tryz.underlying31 rfl (size_of X16.out) ?_) | (with_reducible refine held_store (ty := 31) ?_) | fail)
      unfold Held
      obtain ⟨ZS, hrv, hzs⟩ := T9.out.rv
      have hrv2 := hrv
      refine wpList_store_row rfl 31 _ _ rfl RV xs ?_ ?_ _ _ hrv (size_of X16.out) (hzs.trans X16.out.symm) XON.out ?_
      · rfl
      · rfl
      go_wp2
      refine bodyPost_ret (v := .tuple #[.agg xs, .int .i64 0]) (results_row_tmp (fn := Tryz.f32) (p := 2) (u := 3) (ty := 31) (by kernel_rfl) _ _ RV 31 _ _ _ rfl (setRow_heap _ _ _ _ _ _ hrv2) Tryz.underlying31 rfl (size_of X16.out)) rfl ?_
      have hh9 := T9.out.h
      refine ⟨xs, F, L, 0, rfl, .inl ⟨HSOME.out, rfl⟩, ⟨pl, E + 1, w7.heap.size, by omega, HXS.out.symm, Nat.le_trans HS9.out (by simp [World.setRow]), IS9.out.fr ((Fr.refl (OneB RV) w9).setRow (fun _ => rfl) xs) HS9.out (fun k h1 _ hx => by simp only [OneB] at hx; omega)⟩, T9.out.fr.setRow (fun hx => absurd hx (by omega)) _⟩
    · as_aux_lemma =>
      rw [decide_eq_false hright] at hcr
      have hnone : getD b = none := by rw [HGD.out, if_neg (fun hx => hright hx.2)]
      have HNONE := Lib.hid hnone
      clear hnone HGD hwh hright
      go_wp2_with (first | ((with_reducible refine hwc.mono ?_); rintro e w8 ⟨rfl, rfl⟩) | (with_reducible refine held_load_on (ty := 31) ?_) | fail)
      unfold Held
      refine wpList_load_on (by rfl) 31 _ rfl E rfl _ _ _ _ T7.out.bx Tryz.underlying31 rfl (size_of X16.out) ?_
      go_wp2_with (fail)
      refine hcr.mono ?_
      rintro e w9 ⟨rfl, f9⟩
      have T9 := Lib.hid (T7.out.keep f9)
      clear f9 T7 RD7 hcr hwc
      go_wp2_with (first | (with_reducible refine held_store (ty := 31) ?_) | fail)
      unfold Held
      obtain ⟨ZS, hrv, hzs⟩ := T9.out.rv
      have hrv2 := hrv
      refine wpList_store_row rfl 31 _ _ rfl RV #[.int .i64 0, .int .u8 0, .int .i64 0, .int .i64 0, .int .i64 0, .int .i64 0, .string ⟨#[]⟩, .slice none 0 0, .int .i64 0, .int .i64 0, .int .i64 0, .int .i64 0, .int .i64 0, .int .i64 0, .slice none 0 0, .slice none 0 0] ?_ ?_ _ _ hrv size16 hzs (by simp [Value.oneCell']) ?_
      · rfl
      · rfl
      go_wp2
      refine bodyPost_ret (v := .tuple #[.agg #[.int .i64 0, .int .u8 0, .int .i64 0, .int .i64 0, .int .i64 0, .int .i64 0, .string ⟨#[]⟩, .slice none 0 0, .int .i64 0, .int .i64 0, .int .i64 0, .int .i64 0, .int .i64 0, .int .i64 0, .slice none 0 0, .slice none 0 0], .int .i64 4]) (results_row_tmp (fn := Tryz.f32) (p := 2) (u := 3) (ty := 31) (by kernel_rfl) _ _ RV 31 _ _ _ rfl (setRow_heap _ _ _ _ _ _ hrv2) Tryz.underlying31 rfl (by kernel_rfl)) rfl ?_
      have hh9 := T9.out.h
      exact ⟨#[.int .i64 0, .int .u8 0, .int .i64 0, .int .i64 0, .int .i64 0, .int .i64 0, .string ⟨#[]⟩, .slice none 0 0, .int .i64 0, .int .i64 0, .int .i64 0, .int .i64 0, .int .i64 0, .int .i64 0, .slice none 0 0, .slice none 0 0], bareF 0, [], 4, rfl, .inr ⟨HNONE.out, rfl, rfl, rfl⟩, zcs_low _ _, T9.out.fr.setRow (fun hx => absurd hx (by omega)) _⟩
theorem rdget_calls (A : Option Addr) (b : List UInt8) (c lo hi : Nat) (w : World) (h : Rd w lo hi A b) (hh : hi ≤ w.heap.size) (hl : b.length ≤ 140737488355328) (hM : Max w) :
    Calls Tryz.prog 32 #[.slice A b.length c] w fun e w' => ∃ cs f l zz, e = .returned (.tuple #[.agg cs, .int .i64 zz]) ∧ ((getD b = some (f, l) ∧ zz = 0) ∨ (getD b = none ∧ f = bareF 0 ∧ l = [] ∧ zz = 4)) ∧ IsD w' cs f l ∧ Fr NoB w w' := by
  refine (rdget_low A b c lo hi w h hh hl hM).mono ?_
  rintro e w' ⟨cs, f, l, zz, rfl, h1, h2, h3⟩
  exact ⟨cs, f, l, zz, rfl, h1, h2.is, h3⟩
end Go.Proofs.YtmlmbahimklfiaaGreatDoor
