/-
  Lne: lists of configs: All, LentEnsembles, KeptEnsembles.
-/
import Derived.Test.YtbgpgaekckfjlaaDoorReq
import Derived.Test.YtbgpgaekckfjlaaDoorLni
import Derived.Deep.DeepAppendRoom
namespace Go.Proofs.YtbgpgaekckfjlaaDoor
open Go.RowKit

/-- A config: its version and its members. -/
abbrev Cfg := Int × List Mem
/-- The configs l lie from A on. -/
def RdE (w : World) (lo hi : Nat) (A : Option Addr) (l : List Cfg) : Prop :=
  0 < l.length → ∃ b o, A = some ⟨b, o, none⟩ ∧ lo ≤ b ∧ b < hi ∧ ∀ i e, l[i]? = some e → ∃ Ai ci,
    w.cell? ⟨b, o + i * 2, none⟩ = some (.int .i64 e.1) ∧ w.cell? ⟨b, o + i * 2 + 1, none⟩ = some (.slice Ai e.2.length ci) ∧ RdM w lo hi Ai e.2
theorem RdE.fr {M : Nat → Prop} {w w' : World} {lo hi : Nat} {A : Option Addr} {l : List Cfg} (h : RdE w lo hi A l) (hf : Fr M w w') (hh : hi ≤ w.heap.size) (hm : ∀ k, lo ≤ k → k < hi → ¬ M k) : RdE w' lo hi A l := fun hl => by
  obtain ⟨b, o, rfl, h1, h2, hc⟩ := h hl
  refine ⟨b, o, rfl, h1, h2, fun i e he => ?_⟩
  obtain ⟨Ai, ci, c0, c1, hr⟩ := hc i e he
  have hb : b < w.heap.size := by omega
  exact ⟨Ai, ci, (hf.cell (p := ⟨b, o + i * 2, none⟩) hb (hm b h1 h2)).trans c0, (hf.cell (p := ⟨b, o + i * 2 + 1, none⟩) hb (hm b h1 h2)).trans c1, hr.fr hf hh hm⟩
/-- What LentEnsembles hands out. -/
def LentE (w : World) (lo hi : Nat) (A : Option Addr) (l : List Cfg) : Prop :=
  ∃ b, A = some ⟨b, 0, none⟩ ∧ lo ≤ b ∧ b < hi ∧ (∀ i e, l[i]? = some e → ∃ Ai ci,
    w.cell? ⟨b, i * 2, none⟩ = some (.int .i64 e.1) ∧ w.cell? ⟨b, i * 2 + 1, none⟩ = some (.slice Ai e.2.length ci) ∧ e.2.length + 12 ≤ ci ∧ RdM w lo hi Ai (e.2 ++ mksM 12)) ∧
    ∀ j, j < 12 → w.cell? ⟨b, (l.length + j) * 2, none⟩ = some (.int .i64 (mkN j)) ∧ w.cell? ⟨b, (l.length + j) * 2 + 1, none⟩ = some (.slice none 0 0)
theorem LentE.fr {w w' : World} {lo hi : Nat} {A : Option Addr} {l : List Cfg} (h : LentE w lo hi A l) (hf : Fr NoB w w') (hh : hi ≤ w.heap.size) : LentE w' lo hi A l := by
  obtain ⟨b, rfl, h1, h2, hc, hm⟩ := h
  have hb : b < w.heap.size := by omega
  refine ⟨b, rfl, h1, h2, fun i e he => ?_, fun j hj => ?_⟩
  · obtain ⟨Ai, ci, c0, c1, c2, hr⟩ := hc i e he
    exact ⟨Ai, ci, (hf.cell (p := ⟨b, i * 2, none⟩) hb (fun x => x)).trans c0, (hf.cell (p := ⟨b, i * 2 + 1, none⟩) hb (fun x => x)).trans c1, c2, hr.fr hf hh (fun _ _ _ x => x)⟩
  · obtain ⟨c0, c1⟩ := hm j hj
    exact ⟨(hf.cell (p := ⟨b, (l.length + j) * 2, none⟩) hb (fun x => x)).trans c0, (hf.cell (p := ⟨b, (l.length + j) * 2 + 1, none⟩) hb (fun x => x)).trans c1⟩
theorem LentE.rde {w : World} {lo hi : Nat} {A : Option Addr} {l : List Cfg} (h : LentE w lo hi A l) : RdE w lo hi A l := fun _ => by
  obtain ⟨b, rfl, h1, h2, hc, -⟩ := h
  refine ⟨b, 0, rfl, h1, h2, fun i e he => ?_⟩
  obtain ⟨Ai, ci, c0, c1, -, hr⟩ := hc i e he
  exact ⟨Ai, ci, by rw [Nat.zero_add]; exact c0, by rw [Nat.zero_add]; exact c1, hr.pre⟩

def allQ (l : List Cfg) (ids : List Int) : Bool := l.all (fun e => quo e.1 e.2 ids) && decide (0 < l.length)
theorem allQ_hit {l : List Cfg} {ids : List Int} {k : Nat} {e : Cfg} (h : l[k]? = some e) (hq : quo e.1 e.2 ids = false) : allQ l ids = false := by
  unfold allQ
  rw [Bool.and_eq_false_iff]
  left
  rw [Bool.eq_false_iff]
  intro ha
  rw [List.all_eq_true] at ha
  have := ha e (List.mem_of_getElem? h)
  rw [hq] at this
  cases this
theorem allQ_end {l : List Cfg} {ids : List Int} (h : ∀ e ∈ l, quo e.1 e.2 ids = true) : allQ l ids = decide ((0 : Int) < (l.length : Int)) := by
  unfold allQ
  rw [List.all_eq_true.2 h, Bool.true_and, decide_eq_decide]
  omega
theorem take_all {α : Type} {P : α → Prop} {l : List α} {k : Nat} {e : α} (h : l[k]? = some e) (hk : ∀ x ∈ l.take k, P x) (he : P e) : ∀ x ∈ l.take (k + 1), P x := by
  rw [List.take_add_one, h]
  intro x hx
  simp only [Option.toList_some, List.mem_append, List.mem_singleton] at hx
  rcases hx with hx | rfl
  · exact hk x hx
  · exact he

set_option maxRecDepth 4000 in
set_option maxHeartbeats 3200000 in
theorem rall_calls (A : Option Addr) (l : List Cfg) (c lo hi : Nat) (B : Option Addr) (ids : List Int) (d lo' hi' : Nat) (w : World) (h : RdE w lo hi A l) (hh : hi ≤ w.heap.size) (h' : RdI w lo' hi' B ids) (hh' : hi' ≤ w.heap.size) (hl : l.length ≤ 1000) (hm : ∀ e ∈ l, e.2.length ≤ 140737488355328) (hl' : ids.length ≤ 140737488355328) :
    Calls Tryd.prog 33 #[.slice A l.length c, .slice B ids.length d] w fun e w' => e = .returned (.bool (allQ l ids)) ∧ Fr NoB w w' := by
  have hll : (l.length : Int) ≤ 1000 := by omega
  have HM := Lib.hid h
  have HI := Lib.hid h'
  have HMM := Lib.hid hm
  clear h h' hm
  go_enter Tryd.func33, Tryd.ntmps33
  go_wp2
  go_loopw [4, 5] (fun r i wr => r = .bool false ∧ ∃ k : Nat, k ≤ l.length ∧ i = .int .i64 (k : Int) ∧ (∀ e ∈ l.take k, quo e.1 e.2 ids = true) ∧ Fr NoB w wr) (fun _ i _ => l.length - (intOf i).toNat)
  case atStart => exact ⟨rfl, 0, Nat.zero_le _, rfl, by simp, Fr.refl NoB w⟩
  case round =>
    obtain ⟨rfl, k, hk, rfl, hq, hf⟩ := hrel
    have FR := Lib.hid hf
    have HQ := Lib.hid hq
    clear hf hq
    by_cases hlt : k < l.length
    · obtain ⟨b, o, rfl, hb1, hb2, hcs⟩ := HM.out (by omega)
      obtain ⟨Ai, ci, d0, d1, hr⟩ := hcs k l[k] (List.getElem?_eq_getElem hlt)
      have hml := HMM.out l[k] (List.getElem_mem hlt)
      have HG := Lib.hid (List.getElem?_eq_getElem hlt)
      clear hcs
      generalize l[k] = e at d0 d1 hr hml HG
      obtain ⟨ev, em⟩ := e
      simp only at d0 d1 hr hml
      have e0 := (FR.out.cell (p := ⟨b, o + k * 2, none⟩) (by simp only; omega) (fun x => x)).trans d0
      have e1 := (FR.out.cell (p := ⟨b, o + k * 2 + 1, none⟩) (by simp only; omega) (fun x => x)).trans d1
      have HC := Lib.hid (rquorum_calls ev Ai em ci lo hi B ids d lo' hi' wr (hr.fr FR.out hh (fun _ _ _ x => x)) (Nat.le_trans hh FR.out.size) (HI.out.fr FR.out hh' (fun _ _ _ x => x)) (Nat.le_trans hh' FR.out.size) hml hl')
      have hi1 : (k : Int) < (l.length : Int) := by omega
      clear d0 d1 hr
      go_wp2_with (fail)
      refine HC.out.mono ?_
      rintro e w2 ⟨rfl, f2⟩
      have F2 := Lib.hid (FR.out.then f2)
      clear f2 HC e0 e1
      cases hq : quo ev em ids
      · have HR := Lib.hid (allQ_hit HG.out hq)
        clear hq
        go_wp2
        go_ret
        exact ⟨by rw [HR.out]; rfl, F2.out⟩
      · have HR := Lib.hid (take_all HG.out HQ.out hq)
        clear hq
        go_wp2
        go_roundw
        case rel => exact ⟨rfl, k + 1, by omega, by go_num, HR.out, F2.out⟩
        case measure => simp [intOf]; omega
    · obtain rfl : k = l.length := by omega
      have hq := HQ.out
      rw [List.take_length] at hq
      have HR := Lib.hid (allQ_end hq)
      clear hq HQ HM HI HMM hlt hk
      go_wp2
      go_ret
      exact ⟨by rw [HR.out]; simp, FR.out⟩

set_option maxRecDepth 4000 in
set_option maxHeartbeats 3200000 in
theorem all_calls (A : Option Addr) (l : List Cfg) (c lo hi : Nat) (B : Option Addr) (ids : List Int) (d lo' hi' : Nat) (w : World) (h : RdE w lo hi A l) (hh : hi ≤ w.heap.size) (h' : RdI w lo' hi' B ids) (hh' : hi' ≤ w.heap.size) (hl : l.length ≤ 1000) (hm : ∀ e ∈ l, e.2.length ≤ 140737488355328) (hl' : ids.length ≤ 140737488355328) :
    Calls Tryd.prog 32 #[.slice A l.length c, .slice B ids.length d] w fun e w' => e = .returned (.bool (allQ l ids)) ∧ Fr NoB w w' := by
  have hll : (l.length : Int) ≤ 1000 := by omega
  have HM := Lib.hid h
  have HI := Lib.hid h'
  have HMM := Lib.hid hm
  clear h h' hm
  go_enter Tryd.func32, Tryd.ntmps32
  go_wp2
  go_loopw [4, 6, 9] (fun r _ i wr => r = .bool false ∧ ∃ k : Nat, k ≤ l.length ∧ i = .int .i64 (k : Int) ∧ (∀ e ∈ l.take k, quo e.1 e.2 ids = true) ∧ Fr NoB w wr) (fun _ _ i _ => l.length - (intOf i).toNat)
  case atStart => exact ⟨rfl, 0, Nat.zero_le _, rfl, by simp, Fr.refl NoB w⟩
  case round =>
    obtain ⟨rfl, k, hk, rfl, hq, hf⟩ := hrel
    have FR := Lib.hid hf
    have HQ := Lib.hid hq
    clear hf hq
    by_cases hlt : k < l.length
    · obtain ⟨b, o, rfl, hb1, hb2, hcs⟩ := HM.out (by omega)
      obtain ⟨Ai, ci, d0, d1, hr⟩ := hcs k l[k] (List.getElem?_eq_getElem hlt)
      have hml := HMM.out l[k] (List.getElem_mem hlt)
      have HG := Lib.hid (List.getElem?_eq_getElem hlt)
      clear hcs
      generalize l[k] = e at d0 d1 hr hml HG
      obtain ⟨ev, em⟩ := e
      simp only at d0 d1 hr hml
      have e0 := (FR.out.cell (p := ⟨b, o + k * 2, none⟩) (by simp only; omega) (fun x => x)).trans d0
      have e1 := (FR.out.cell (p := ⟨b, o + k * 2 + 1, none⟩) (by simp only; omega) (fun x => x)).trans d1
      have FA := Lib.hid (FR.out.alloc (.cells #[.int .i64 ev, .slice Ai em.length ci] 25))
      have HC := Lib.hid (quorum_calls ev Ai em ci lo hi B ids d lo' hi' _ (hr.fr FA.out hh (fun _ _ _ x => x)) (Nat.le_trans hh FA.out.size) hml (HI.out.fr FA.out hh' (fun _ _ _ x => x)) (Nat.le_trans hh' FA.out.size) hl')
      have hi1 : (k : Int) < (l.length : Int) := by omega
      clear d0 d1 hr
      go_wp2_with (fail)
      refine HC.out.mono ?_
      rintro e w2 ⟨rfl, f2⟩
      have F2 := Lib.hid (FA.out.then f2)
      clear f2 HC e0 e1
      cases hq : quo ev em ids
      · have HR := Lib.hid (allQ_hit HG.out hq)
        clear hq
        go_wp2
        go_ret
        exact ⟨by rw [HR.out]; rfl, F2.out⟩
      · have HR := Lib.hid (take_all HG.out HQ.out hq)
        clear hq
        go_wp2
        go_roundw
        case rel => exact ⟨rfl, k + 1, by omega, by go_num, HR.out, F2.out⟩
        case measure => simp [intOf]; omega
    · obtain rfl : k = l.length := by omega
      have hq := HQ.out
      rw [List.take_length] at hq
      have HR := Lib.hid (allQ_end hq)
      clear hq HQ HM HI HMM hlt hk
      go_wp2
      go_ret
      exact ⟨by rw [HR.out]; simp, FR.out⟩

theorem info_ens : (Tryd.prog.info? 25).map (fun i => (i.zero, i.size, i.bytes)) = some (some (.agg #[.int .i64 0, .slice none 0 0]), 2, 32) := by kernel_rfl

/-- Two cells for each config: its version, its members' slice. -/
abbrev Quad := Int × Option Addr × Nat × Nat
def qv : List Quad → List Value
  | [] => []
  | q :: l => .int .i64 q.1 :: .slice q.2.1 q.2.2.1 q.2.2.2 :: qv l
theorem qv_append (a b : List Quad) : qv (a ++ b) = qv a ++ qv b := by
  induction a with
  | nil => rfl
  | cons m a ih => simp [qv, ih]
theorem qv_one (l : List Quad) : ∀ v ∈ qv l, v.oneCell' = true := by
  induction l with
  | nil => intro v hv; cases hv
  | cons m l ih =>
    intro v hv
    simp only [qv, List.mem_cons] at hv
    rcases hv with rfl | rfl | hv
    · rfl
    · rfl
    · exact ih v hv
theorem qv_get (l : List Quad) (i : Nat) (q : Quad) (h : l[i]? = some q) : (qv l)[i * 2]? = some (.int .i64 q.1) ∧ (qv l)[i * 2 + 1]? = some (.slice q.2.1 q.2.2.1 q.2.2.2) := by
  induction l generalizing i with
  | nil => simp at h
  | cons x l ih =>
    cases i with
    | zero => simp at h; subst h; simp [qv]
    | succ i =>
      have := ih i (by simpa using h)
      simp only [qv, show (i + 1) * 2 = i * 2 + 1 + 1 by omega, List.getElem?_cons_succ]
      exact this
def mkQ (i : Nat) : Quad := (mkN i, none, 0, 0)
def mksQ (n : Nat) : List Quad := (List.range n).map mkQ
@[simp] theorem mksQ_length (n : Nat) : (mksQ n).length = n := by simp [mksQ]
theorem mksQ_succ (n : Nat) : mksQ (n + 1) = mksQ n ++ [mkQ n] := by simp [mksQ, List.range_succ]
theorem mksQ_get {n i : Nat} (h : i < n) : (mksQ n)[i]? = some (mkQ i) := by simp [mksQ, h]
/-- The first configs of l are lent, one by one. -/
structure EntL (w : World) (lo : Nat) (qs : List Quad) (l : List Cfg) (k : Nat) : Prop where
  len : qs.length = k
  ent : ∀ i e, i < k → l[i]? = some e → ∃ Ai ci, qs[i]? = some (e.1, Ai, e.2.length, ci) ∧ e.2.length + 12 ≤ ci ∧ RdM w lo w.heap.size Ai (e.2 ++ mksM 12)
theorem EntL.fr {M : Nat → Prop} {w w' : World} {lo k : Nat} {qs : List Quad} {l : List Cfg} (h : EntL w lo qs l k) (hf : Fr M w w') (hm : ∀ k, lo ≤ k → ¬ M k) : EntL w' lo qs l k :=
  ⟨h.len, fun i e hi he => by
    obtain ⟨Ai, ci, h1, h2, h3⟩ := h.ent i e hi he
    exact ⟨Ai, ci, h1, h2, (h3.fr hf (Nat.le_refl _) (fun k hk _ => hm k hk)).wide (Nat.le_refl _) hf.size⟩⟩
theorem EntL.push {w : World} {lo k : Nat} {qs : List Quad} {l : List Cfg} {e : Cfg} {Ai : Option Addr} {ci : Nat} (h : EntL w lo qs l k) (he : l[k]? = some e) (hc : e.2.length + 12 ≤ ci) (hr : RdM w lo w.heap.size Ai (e.2 ++ mksM 12)) : EntL w lo (qs ++ [(e.1, Ai, e.2.length, ci)]) l (k + 1) :=
  ⟨by rw [List.length_append, h.len]; rfl, fun i e' hi he' => by
    by_cases hik : i < k
    · obtain ⟨Ai, ci, h1, h2, h3⟩ := h.ent i e' hik he'
      exact ⟨Ai, ci, by rw [List.getElem?_append_left (by rw [h.len]; exact hik)]; exact h1, h2, h3⟩
    · obtain rfl : i = k := by omega
      rw [he] at he'
      cases he'
      exact ⟨Ai, ci, by rw [List.getElem?_append_right (by rw [h.len]; exact Nat.le_refl _), h.len, Nat.sub_self]; rfl, hc, hr⟩⟩
theorem ent_lent {w : World} {G n c : Nat} {qs : List Quad} {l : List Cfg} (h : EntL w (G + 1) qs l l.length) (hn : n = l.length + 12) (ho : w.ownsRow G 25 2 (.slice (some ⟨G, 0, none⟩) n c) n (qv (qs ++ mksQ 12))) : LentE w G w.heap.size (some ⟨G, 0, none⟩) l := by
  subst hn
  have hG := (ho.lt G rfl).2
  have hcell : ∀ i q, (qs ++ mksQ 12)[i]? = some q → w.cell? ⟨G, i * 2, none⟩ = some (.int .i64 q.1) ∧ w.cell? ⟨G, i * 2 + 1, none⟩ = some (.slice q.2.1 q.2.2.1 q.2.2.2) := fun i q hq => by
    obtain ⟨k0, k1⟩ := qv_get _ i q hq
    have c0 := ho.cells (g := G) rfl _ _ k0
    have c1 := ho.cells (g := G) rfl _ _ k1
    rw [Lib.addr_add, Nat.zero_add] at c0 c1
    exact ⟨c0, c1⟩
  refine ⟨G, rfl, Nat.le_refl _, hG, fun i e he => ?_, fun j hj => ?_⟩
  · have hi := (List.getElem?_eq_some_iff.1 he).1
    obtain ⟨Ai, ci, h1, h2, h3⟩ := h.ent i e hi he
    obtain ⟨c0, c1⟩ := hcell i _ (by rw [List.getElem?_append_left (by rw [h.len]; exact hi)]; exact h1)
    exact ⟨Ai, ci, c0, c1, h2, h3.wide (by omega) (Nat.le_refl _)⟩
  · exact hcell (l.length + j) (mkQ j) (by rw [List.getElem?_append_right (by rw [h.len]; omega), h.len, Nat.add_sub_cancel_left]; exact mksQ_get hj)

set_option maxHeartbeats 800000 in
theorem marke_calls (i : Nat) (hi : i ≤ 12) (w : World) :
    Calls Tryd.prog 61 #[.int .i64 1, .int .i64 (i : Int)] w fun e w' => e = .returned (.agg #[.int .i64 (mkN i), .slice none 0 0]) ∧ Fr NoB w w' := by
  have HC := Lib.hid (fun W => mark_calls i hi W)
  go_enter Tryd.func61, Tryd.ntmps61
  go_wp2_with (fail)
  refine (HC.out _).mono ?_
  rintro e w1 ⟨rfl, f1⟩
  have F1 := Lib.hid f1
  clear f1 HC
  have HR := Lib.hid (F1.out.at_ (heap_alloc_new w _) (fun x => x))
  have hr := HR.out
  have q0 := (cells_of hr 0).2
  have q1 := (cells_of hr 1).2
  have r0 := (cells_of hr 0).1
  have r1 := (cells_of hr 1).1
  simp only [List.getElem?_toArray, List.getElem?_cons_zero, List.getElem?_cons_succ] at r0 r1
  have F2 := Lib.hid (((Fr.refl NoB w).alloc _).then F1.out)
  clear hr F1
  go_wp2
  refine bodyPost_ret (v := .agg #[.int .i64 (mkN i), .slice none 0 0]) (results_cell_row (fn := Tryd.f61) (p := 4) (ty := 25) (by kernel_rfl) _ _ w.heap.size 25 _ _ _ rfl (two_set HR.out) Tryd.underlying25 rfl (by kernel_rfl)) rfl ⟨rfl, (F2.out.setCell (p := ⟨w.heap.size, 0, none⟩) (fun k => absurd k (by simp)) _).setCell (p := ⟨w.heap.size, 1, none⟩) (fun k => absurd k (by simp)) _⟩

set_option maxRecDepth 4000 in
set_option maxHeartbeats 3200000 in
theorem lentes_calls (A : Option Addr) (l : List Cfg) (c lo hi : Nat) (w : World) (h : RdE w lo hi A l) (hh : hi ≤ w.heap.size) (hl : l.length ≤ 1000) (hm : ∀ e ∈ l, e.2.length ≤ 4398046510976) :
    Calls Tryd.prog 29 #[.slice A l.length c] w fun e w' => ∃ A', e = .returned (.slice A' l.length (l.length + 12)) ∧ LentE w' w.heap.size w'.heap.size A' l ∧ Fr NoB w w' := by
  have hll : (l.length : Int) ≤ 1000 := by omega
  obtain ⟨i0, hi0, hz0, hz1, hz2⟩ := info_parts info_ens
  obtain ⟨wa, hmk, hown, hgr⟩ := run_make_own (P := Tryd.prog) (w := w) w.heap.size 52 25 i0 (.agg #[.int .i64 0, .slice none 0 0]) 2 Tryd.underlying52 hi0 hz0 hz1 .i64 .i64 (l.length + 12) (by rw [hz2]; omega) (by unfold maxLen; omega) (Nat.le_refl _)
  rw [show ((l.length + 12 : Nat) : Int) = (l.length : Int) + 12 by omega] at hmk
  have O1 : Ow w wa 25 2 (.slice (some ⟨w.heap.size, 0, none⟩) 0 (l.length + 12)) 0 (qv []) := ⟨Fr.ofGrown hgr (fun _ _ hx => by cases hx), hown⟩
  have HM := Lib.hid h
  have HMM := Lib.hid hm
  have HO := Lib.hid O1
  have HC := Lib.hid (fun (k : Nat) (hk : k ≤ 12) W => marke_calls k hk W)
  clear h hown hgr O1 hm
  go_enter Tryd.func29, Tryd.ntmps29
  go_wp2
  clear hmk
  go_loopw [3, 4, 5] (fun out i _ wr => ∃ (k : Nat) (qs : List Quad), k ≤ l.length ∧ i = .int .i64 (k : Int) ∧ out = .slice (some ⟨w.heap.size, 0, none⟩) k (l.length + 12) ∧ Ow w wr 25 2 (.slice (some ⟨w.heap.size, 0, none⟩) k (l.length + 12)) k (qv qs) ∧ EntL wr (w.heap.size + 1) qs l k) (fun _ i _ _ => l.length - (intOf i).toNat)
  case atStart => exact ⟨0, [], by omega, rfl, rfl, HO.out, rfl, fun i e hi => by omega⟩
  case round =>
    obtain ⟨k, qs, hk, rfl, rfl, ho, he⟩ := hrel
    have HK := Lib.hid ho
    have HE := Lib.hid he
    clear ho he HO
    have HG := Lib.hid (HK.out.own.lt w.heap.size rfl).2
    by_cases hlt : k < l.length
    · obtain ⟨b, o, rfl, hb1, hb2, hcs⟩ := HM.out (by omega)
      obtain ⟨Ai, ci, d0, d1, hr⟩ := hcs k l[k] (List.getElem?_eq_getElem hlt)
      have hml := HMM.out l[k] (List.getElem_mem hlt)
      have HGE := Lib.hid (List.getElem?_eq_getElem hlt)
      clear hcs
      generalize l[k] = e at d0 d1 hr hml HGE
      obtain ⟨ev, em⟩ := e
      simp only at d0 d1 hr hml
      have e0 := (HK.out.fr.cell (p := ⟨b, o + k * 2, none⟩) (by simp only; omega) (fun x => x)).trans d0
      have e1 := (HK.out.fr.cell (p := ⟨b, o + k * 2 + 1, none⟩) (by simp only; omega) (fun x => x)).trans d1
      have HLE := Lib.hid (lente_calls ev Ai em ci lo hi wr (hr.fr HK.out.fr hh (fun _ _ _ x => x)) (Nat.le_trans hh HK.out.fr.size) hml)
      have hi1 : (k : Int) < (l.length : Int) := by omega
      clear d0 d1 hr
      go_wp2_with (fail)
      refine HLE.out.mono ?_
      rintro e w2 ⟨A2, c2, rfl, hc2, -, r2, f2⟩
      have K2 := Lib.hid (HK.out.keep (f2.alloc (.cells #[.int .i64 ev, .slice A2 em.length c2] 25)))
      have E2 := Lib.hid (HE.out.fr (f2.alloc (.cells #[.int .i64 ev, .slice A2 em.length c2] 25)) (fun _ _ x => x))
      have R2 := Lib.hid ((r2.fr ((Fr.refl NoB w2).alloc (.cells #[.int .i64 ev, .slice A2 em.length c2] 25)) (Nat.le_refl _) (fun _ _ _ x => x)).wide (lo' := w.heap.size + 1) (hi' := (w2.alloc (.cells #[.int .i64 ev, .slice A2 em.length c2] 25)).heap.size) HG.out (by simp))
      clear f2 r2 HK HE HLE e0 e1
      have E3 := Lib.hid (E2.out.push HGE.out hc2 R2.out)
      have hsrc : ∀ (t : TypeId) (j : Nat) (u : Value), (qv [(ev, A2, em.length, c2)])[j]? = some u → ((w2.alloc (.cells #[.int .i64 ev, .slice A2 em.length c2] 25)).alloc (.cells #[.int .i64 ev, .slice A2 em.length c2] t)).cell? ((⟨w2.heap.size + 1, 0, none⟩ : Addr).add j) = some u := fun t j u hj => by
        obtain ⟨ad, g1, g2⟩ := src_block (w2.alloc (.cells #[.int .i64 ev, .slice A2 em.length c2] 25)) #[.int .i64 ev, .slice A2 em.length c2] t (qv [(ev, A2, em.length, c2)]) rfl
        rw [show (w2.alloc (.cells #[.int .i64 ev, .slice A2 em.length c2] 25)).heap.size = w2.heap.size + 1 from by simp] at g1
        cases g1
        exact g2 j u hj
      have HSRC := Lib.hid hsrc
      clear hsrc E2 R2 hc2
      go_wp2_with (at_builtin; go_loud (refine wpList_append_own_spare _ rfl _ _ 52 rfl w.heap.size 25 i0 2 Tryd.underlying52 hi0 hz1 w.heap.size k (l.length + 12) (qv qs) rfl (K2.out.own.alloc _) _ 1 _ (qv [(ev, A2, em.length, c2)]) rfl rfl (HSRC.out _) (qv_one _) (by omega) ?_))
      intro w4 hown4 hgr4
      have f4 := Fr.ofGrown (M := OneB w.heap.size) hgr4 (fun k _ e => by cases e; rfl)
      rw [← qv_append] at hown4
      have K4 := Lib.hid (show Ow w w4 25 2 _ _ _ from ⟨(K2.out.fr.alloc _).upE f4 (fun k hk => by simp only [OneB] at hk; omega), hown4⟩)
      have E4 := Lib.hid ((E3.out.fr ((Fr.refl NoB _).alloc _) (fun _ _ x => x)).fr f4 (fun k hk hx => by simp only [OneB] at hx; omega))
      clear f4 hown4 hgr4 K2 E3 HSRC
      go_wp2
      go_roundw
      case rel => exact ⟨k + 1, _, by omega, by go_num, by trivial, K4.out, E4.out⟩
      case measure => simp [intOf]; omega
    · obtain rfl : k = l.length := by omega
      clear hlt hk
      obtain ⟨wo, hwo⟩ : ∃ wo : World, wo = wr := ⟨_, rfl⟩
      go_wp2
      go_loopw [3, 6] (fun out i wr2 => ∃ (j : Nat), j ≤ 12 ∧ i = .int .i64 (j : Int) ∧ out = .slice (some ⟨w.heap.size, 0, none⟩) (l.length + j) (l.length + 12) ∧ Ow w wr2 25 2 (.slice (some ⟨w.heap.size, 0, none⟩) (l.length + j) (l.length + 12)) (l.length + j) (qv (qs ++ mksQ j)) ∧ EntL wr2 (w.heap.size + 1) qs l l.length) (fun _ i _ => 12 - (intOf i).toNat)
      case atStart => exact ⟨0, by omega, rfl, rfl, by simpa [mksQ] using HK.out, HE.out⟩
      case round =>
        obtain ⟨j, hj, rfl, rfl, ho, he⟩ := hrel
        have HK2 := Lib.hid ho
        have HE2 := Lib.hid he
        clear ho he HK HE
        by_cases hlt : j < 12
        · have hji : (j : Int) < 12 := by omega
          go_wp2_with (fail)
          refine (HC.out j (by omega) _).mono ?_
          rintro e w2 ⟨rfl, f2⟩
          have K2 := Lib.hid (HK2.out.keep f2)
          have E2 := Lib.hid (HE2.out.fr f2 (fun _ _ x => x))
          clear f2 HK2 HE2
          have hsrc : ∀ (t : TypeId) (i : Nat) (u : Value), (qv [mkQ j])[i]? = some u → (w2.alloc (.cells #[.int .i64 (mkN j), .slice none 0 0] t)).cell? ((⟨w2.heap.size, 0, none⟩ : Addr).add i) = some u := fun t i u hj => by
            obtain ⟨ad, g1, g2⟩ := src_block w2 #[.int .i64 (mkN j), .slice none 0 0] t (qv [mkQ j]) rfl
            cases g1
            exact g2 i u hj
          have HSRC := Lib.hid hsrc
          clear hsrc
          go_wp2_with (at_builtin; go_loud (refine wpList_append_own_spare _ rfl _ _ 52 rfl w.heap.size 25 i0 2 Tryd.underlying52 hi0 hz1 w.heap.size (l.length + j) (l.length + 12) (qv (qs ++ mksQ j)) rfl (K2.out.own.alloc _) _ 1 _ (qv [mkQ j]) rfl rfl (HSRC.out _) (qv_one _) (by omega) ?_))
          intro w4 hown4 hgr4
          have f4 := Fr.ofGrown (M := OneB w.heap.size) hgr4 (fun k _ e => by cases e; rfl)
          rw [← qv_append, List.append_assoc, ← mksQ_succ] at hown4
          have K4 := Lib.hid (show Ow w w4 25 2 _ _ _ from ⟨(K2.out.fr.alloc _).upE f4 (fun k hk => by simp only [OneB] at hk; omega), hown4⟩)
          have E4 := Lib.hid ((E2.out.fr ((Fr.refl NoB _).alloc _) (fun _ _ x => x)).fr f4 (fun k hk hx => by simp only [OneB] at hx; omega))
          clear f4 hown4 hgr4 K2 E2 HSRC
          go_wp2
          go_roundw
          case rel => exact ⟨j + 1, by omega, by go_num, by rw [Nat.add_assoc], K4.out, E4.out⟩
          case measure => simp [intOf]; omega
        · obtain rfl : j = 12 := by omega
          have HLL := Lib.hid (ent_lent HE2.out rfl HK2.out.own)
          have HF := Lib.hid HK2.out.fr
          clear HK2 HE2 hlt hj
          go_wp2
          go_ret
          exact ⟨_, rfl, HLL.out, HF.out⟩

set_option maxRecDepth 4000 in
set_option maxHeartbeats 6400000 in
theorem keptes_calls (A A' : Option Addr) (l : List Cfg) (c lo hi lo' hi' : Nat) (w : World) (h' : LentE w lo' hi' A' l) (hh' : hi' ≤ w.heap.size) (h : RdE w lo hi A l) (hh : hi ≤ w.heap.size) (hl : l.length ≤ 1000) (hm : ∀ e ∈ l, e.2.length ≤ 4398046510976) :
    Calls Tryd.prog 34 #[.slice A' l.length (l.length + 12), .slice A l.length c] w fun e w' => e = .returned (.bool true) ∧ Fr NoB w w' := by
  have hll : (l.length : Int) ≤ 1000 := by omega
  have hwl : IntKind.i64.wrap ((l.length : Int) + 12) = (l.length : Int) + 12 := by rw [IntKind.wrap_i64]; omega
  have H1 := Lib.hid h
  obtain ⟨b', rfl, hb1', hb2', hc', hk'⟩ := h'
  have H2 := Lib.hid hc'
  have H3 := Lib.hid hk'
  have HMM := Lib.hid hm
  clear h hc' hk' hm
  go_enter Tryd.func34, Tryd.ntmps34
  go_wp2
  go_loopw [4, 6] (fun r i wr => r = .bool false ∧ ∃ k : Nat, k ≤ l.length + 12 ∧ i = .int .i64 (k : Int) ∧ Fr NoB w wr) (fun _ i _ => l.length + 12 - (intOf i).toNat)
  case atStart => exact ⟨rfl, 0, Nat.zero_le _, rfl, Fr.refl NoB w⟩
  case round =>
    obtain ⟨rfl, k, hk, rfl, hf⟩ := hrel
    have FR := Lib.hid hf
    clear hf
    by_cases hlt : k < l.length
    · obtain ⟨b, o, rfl, hb1, hb2, h0⟩ := H1.out (by omega)
      obtain ⟨A1, c1, p0, p1, pr⟩ := h0 k l[k] (List.getElem?_eq_getElem hlt)
      obtain ⟨A2, c2, q0, q1, q2, qr⟩ := H2.out k l[k] (List.getElem?_eq_getElem hlt)
      have hml := HMM.out l[k] (List.getElem_mem hlt)
      clear h0
      generalize l[k] = e at p0 p1 pr q0 q1 q2 qr hml
      obtain ⟨ev, em⟩ := e
      simp only at p0 p1 pr q0 q1 q2 qr hml
      have HS := Lib.hid (fun W (f : Fr NoB w W) => (show (fun W : World => W.cell? ⟨b, o + k * 2, none⟩ = some (.int .i64 ev) ∧ W.cell? ⟨b, o + k * 2 + 1, none⟩ = some (.slice A1 em.length c1) ∧ W.cell? ⟨b', k * 2, none⟩ = some (.int .i64 ev) ∧ W.cell? ⟨b', k * 2 + 1, none⟩ = some (.slice A2 em.length c2)) W from
        ⟨(f.cell (p := ⟨b, o + k * 2, none⟩) (by simp only; omega) (fun x => x)).trans p0, (f.cell (p := ⟨b, o + k * 2 + 1, none⟩) (by simp only; omega) (fun x => x)).trans p1, (f.cell (p := ⟨b', k * 2, none⟩) (by simp only; omega) (fun x => x)).trans q0, (f.cell (p := ⟨b', k * 2 + 1, none⟩) (by simp only; omega) (fun x => x)).trans q1⟩))
      have HC := Lib.hid (fun W (f : Fr NoB w W) => kepte_calls ev A1 A2 em c1 c2 lo hi lo' hi' W (qr.fr f hh' (fun _ _ _ x => x)) (Nat.le_trans hh' f.size) (pr.fr f hh (fun _ _ _ x => x)) (Nat.le_trans hh f.size) hml q2)
      have hi1 : (k : Int) < (l.length : Int) := by omega
      have hi2 : (k : Int) < (l.length : Int) + 12 := by omega
      have hd1 : decide ((k : Int) < (l.length : Int)) = true := by simp; omega
      have hd2 : decide ((l.length : Int) ≤ (k : Int)) = false := by simp; omega
      have hd3 : decide (k < l.length) = true := by simp; omega
      have hd4 : decide (l.length ≤ k) = false := by simp; omega
      clear p0 p1 pr q0 q1 q2 qr
      go_wp2
      refine wp_region_held_drew (S := fun W : World => W.cell? ⟨b, o + k * 2, none⟩ = some (.int .i64 ev) ∧ W.cell? ⟨b, o + k * 2 + 1, none⟩ = some (.slice A1 em.length c1) ∧ W.cell? ⟨b', k * 2, none⟩ = some (.int .i64 ev) ∧ W.cell? ⟨b', k * 2 + 1, none⟩ = some (.slice A2 em.length c2)) (by kernel_rfl) (HS.out _ FR.out.drew) (fun hHeld => ?_)
      first | (refine wpAnyH_take (i := 0) (v := undef) (by simp only [List.getElem?_toArray, List.getElem?_cons_zero]; rfl) (by kernel_rfl) (by kernel_rfl) (by kernel_rfl) (by exact fun _ _ _ h => h) (Or.inr ⟨by rfl, rfl⟩) (by assumption) ?_) | (refine wpAnyH_take (i := 0) (v := ?_) (by simp only [List.getElem?_toArray, List.getElem?_cons_zero]; rfl) (by kernel_rfl) (by kernel_rfl) (by kernel_rfl) (by exact fun _ _ _ h => h) (Or.inl ⟨by rfl, ?_⟩) (by assumption) ?_; rotate_left; · (intro w hSw; (try dsimp only at hSw); go_simp; (try with_reducible rfl)))
      try simp only [Act.put, List.setIfInBounds_toArray, List.set_cons_zero, List.set_cons_succ]
      first | (refine wpAnyH_take (i := 1) (v := undef) (by simp only [List.getElem?_toArray, List.getElem?_cons_succ, List.getElem?_cons_zero]; rfl) (by kernel_rfl) (by kernel_rfl) (by kernel_rfl) (by exact fun _ _ _ h => h) (Or.inr ⟨by rfl, rfl⟩) (by assumption) ?_) | (refine wpAnyH_take (i := 1) (v := ?_) (by simp only [List.getElem?_toArray, List.getElem?_cons_succ, List.getElem?_cons_zero]; rfl) (by kernel_rfl) (by kernel_rfl) (by kernel_rfl) (by exact fun _ _ _ h => h) (Or.inl ⟨by rfl, ?_⟩) (by assumption) ?_; rotate_left; · (intro w hSw; (try dsimp only at hSw); go_simp; (try with_reducible rfl)))
      try simp only [Act.put, List.setIfInBounds_toArray, List.set_cons_zero, List.set_cons_succ]
      first | (refine wpAnyH_take (i := 2) (v := undef) (by simp only [List.getElem?_toArray, List.getElem?_cons_succ, List.getElem?_cons_zero]; rfl) (by kernel_rfl) (by kernel_rfl) (by kernel_rfl) (by exact fun _ _ _ h => h) (Or.inr ⟨by rfl, rfl⟩) (by assumption) ?_) | (refine wpAnyH_take (i := 2) (v := ?_) (by simp only [List.getElem?_toArray, List.getElem?_cons_succ, List.getElem?_cons_zero]; rfl) (by kernel_rfl) (by kernel_rfl) (by kernel_rfl) (by exact fun _ _ _ h => h) (Or.inl ⟨by rfl, ?_⟩) (by assumption) ?_; rotate_left; · (intro w hSw; (try dsimp only at hSw); go_simp; (try with_reducible rfl)))
      try simp only [Act.put, List.setIfInBounds_toArray, List.set_cons_zero, List.set_cons_succ]
      first | (refine wpAnyH_take (i := 3) (v := undef) (by simp only [List.getElem?_toArray, List.getElem?_cons_succ, List.getElem?_cons_zero]; rfl) (by kernel_rfl) (by kernel_rfl) (by kernel_rfl) (by exact fun _ _ _ h => h) (Or.inr ⟨by rfl, rfl⟩) (by assumption) ?_) | (refine wpAnyH_take (i := 3) (v := ?_) (by simp only [List.getElem?_toArray, List.getElem?_cons_succ, List.getElem?_cons_zero]; rfl) (by kernel_rfl) (by kernel_rfl) (by kernel_rfl) (by exact fun _ _ _ h => h) (Or.inl ⟨by rfl, ?_⟩) (by assumption) ?_; rotate_left; · (intro w hSw; (try dsimp only at hSw); go_simp; (try with_reducible rfl)))
      try simp only [Act.put, List.setIfInBounds_toArray, List.set_cons_zero, List.set_cons_succ]
      first | (refine wpAnyH_take (i := 4) (v := undef) (by simp only [List.getElem?_toArray, List.getElem?_cons_succ, List.getElem?_cons_zero]; rfl) (by kernel_rfl) (by kernel_rfl) (by kernel_rfl) (by exact fun _ _ _ h => h) (Or.inr ⟨by rfl, rfl⟩) (by assumption) ?_) | (refine wpAnyH_take (i := 4) (v := ?_) (by simp only [List.getElem?_toArray, List.getElem?_cons_succ, List.getElem?_cons_zero]; rfl) (by kernel_rfl) (by kernel_rfl) (by kernel_rfl) (by exact fun _ _ _ h => h) (Or.inl ⟨by rfl, ?_⟩) (by assumption) ?_; rotate_left; · (intro w hSw; (try dsimp only at hSw); go_simp; (try with_reducible rfl)))
      try simp only [Act.put, List.setIfInBounds_toArray, List.set_cons_zero, List.set_cons_succ]
      first | (refine wpAnyH_take (i := 5) (v := undef) (by simp only [List.getElem?_toArray, List.getElem?_cons_succ, List.getElem?_cons_zero]; rfl) (by kernel_rfl) (by kernel_rfl) (by kernel_rfl) (by exact fun _ _ _ h => h) (Or.inr ⟨by rfl, rfl⟩) (by assumption) ?_) | (refine wpAnyH_take (i := 5) (v := ?_) (by simp only [List.getElem?_toArray, List.getElem?_cons_succ, List.getElem?_cons_zero]; rfl) (by kernel_rfl) (by kernel_rfl) (by kernel_rfl) (by exact fun _ _ _ h => h) (Or.inl ⟨by rfl, ?_⟩) (by assumption) ?_; rotate_left; · (intro w hSw; (try dsimp only at hSw); go_simp; (try with_reducible rfl)))
      try simp only [Act.put, List.setIfInBounds_toArray, List.set_cons_zero, List.set_cons_succ]
      first | (refine wpAnyH_take (i := 6) (v := undef) (by simp only [List.getElem?_toArray, List.getElem?_cons_succ, List.getElem?_cons_zero]; rfl) (by kernel_rfl) (by kernel_rfl) (by kernel_rfl) (by exact fun _ _ _ h => h) (Or.inr ⟨by rfl, rfl⟩) (by assumption) ?_) | (refine wpAnyH_take (i := 6) (v := ?_) (by simp only [List.getElem?_toArray, List.getElem?_cons_succ, List.getElem?_cons_zero]; rfl) (by kernel_rfl) (by kernel_rfl) (by kernel_rfl) (by exact fun _ _ _ h => h) (Or.inl ⟨by rfl, ?_⟩) (by assumption) ?_; rotate_left; · (intro w hSw; (try dsimp only at hSw); go_simp; (try with_reducible rfl)))
      try simp only [Act.put, List.setIfInBounds_toArray, List.set_cons_zero, List.set_cons_succ]
      first | (refine wpAnyH_take (i := 7) (v := undef) (by simp only [List.getElem?_toArray, List.getElem?_cons_succ, List.getElem?_cons_zero]; rfl) (by kernel_rfl) (by kernel_rfl) (by kernel_rfl) (by exact fun _ _ _ h => h) (Or.inr ⟨by rfl, rfl⟩) (by assumption) ?_) | (refine wpAnyH_take (i := 7) (v := ?_) (by simp only [List.getElem?_toArray, List.getElem?_cons_succ, List.getElem?_cons_zero]; rfl) (by kernel_rfl) (by kernel_rfl) (by kernel_rfl) (by exact fun _ _ _ h => h) (Or.inl ⟨by rfl, ?_⟩) (by assumption) ?_; rotate_left; · (intro w hSw; (try dsimp only at hSw); go_simp; (try with_reducible rfl)))
      try simp only [Act.put, List.setIfInBounds_toArray, List.set_cons_zero, List.set_cons_succ]
      first | (refine wpAnyH_take (i := 8) (v := undef) (by simp only [List.getElem?_toArray, List.getElem?_cons_succ, List.getElem?_cons_zero]; rfl) (by kernel_rfl) (by kernel_rfl) (by kernel_rfl) (by exact fun _ _ _ h => h) (Or.inr ⟨by rfl, rfl⟩) (by assumption) ?_) | (refine wpAnyH_take (i := 8) (v := ?_) (by simp only [List.getElem?_toArray, List.getElem?_cons_succ, List.getElem?_cons_zero]; rfl) (by kernel_rfl) (by kernel_rfl) (by kernel_rfl) (by exact fun _ _ _ h => h) (Or.inl ⟨by rfl, ?_⟩) (by assumption) ?_; rotate_left; · (intro w hSw; (try dsimp only at hSw); go_simp; (try with_reducible rfl)))
      try simp only [Act.put, List.setIfInBounds_toArray, List.set_cons_zero, List.set_cons_succ]
      first | (refine wpAnyH_take (i := 9) (v := undef) (by simp only [List.getElem?_toArray, List.getElem?_cons_succ, List.getElem?_cons_zero]; rfl) (by kernel_rfl) (by kernel_rfl) (by kernel_rfl) (by exact fun _ _ _ h => h) (Or.inr ⟨by rfl, rfl⟩) (by assumption) ?_) | (refine wpAnyH_take (i := 9) (v := ?_) (by simp only [List.getElem?_toArray, List.getElem?_cons_succ, List.getElem?_cons_zero]; rfl) (by kernel_rfl) (by kernel_rfl) (by kernel_rfl) (by exact fun _ _ _ h => h) (Or.inl ⟨by rfl, ?_⟩) (by assumption) ?_; rotate_left; · (intro w hSw; (try dsimp only at hSw); go_simp; (try with_reducible rfl)))
      try simp only [Act.put, List.setIfInBounds_toArray, List.set_cons_zero, List.set_cons_succ]
      first | (refine wpAnyH_take (i := 10) (v := undef) (by simp only [List.getElem?_toArray, List.getElem?_cons_succ, List.getElem?_cons_zero]; rfl) (by kernel_rfl) (by kernel_rfl) (by kernel_rfl) (by exact fun _ _ _ h => h) (Or.inr ⟨by rfl, rfl⟩) (by assumption) ?_) | (refine wpAnyH_take (i := 10) (v := ?_) (by simp only [List.getElem?_toArray, List.getElem?_cons_succ, List.getElem?_cons_zero]; rfl) (by kernel_rfl) (by kernel_rfl) (by kernel_rfl) (by exact fun _ _ _ h => h) (Or.inl ⟨by rfl, ?_⟩) (by assumption) ?_; rotate_left; · (intro w hSw; (try dsimp only at hSw); go_simp; (try with_reducible rfl)))
      try simp only [Act.put, List.setIfInBounds_toArray, List.set_cons_zero, List.set_cons_succ]
      first | (refine wpAnyH_take (i := 11) (v := undef) (by simp only [List.getElem?_toArray, List.getElem?_cons_succ, List.getElem?_cons_zero]; rfl) (by kernel_rfl) (by kernel_rfl) (by kernel_rfl) (by exact fun _ _ _ h => h) (Or.inr ⟨by rfl, rfl⟩) (by assumption) ?_) | (refine wpAnyH_take (i := 11) (v := ?_) (by simp only [List.getElem?_toArray, List.getElem?_cons_succ, List.getElem?_cons_zero]; rfl) (by kernel_rfl) (by kernel_rfl) (by kernel_rfl) (by exact fun _ _ _ h => h) (Or.inl ⟨by rfl, ?_⟩) (by assumption) ?_; rotate_left; · (intro w hSw; (try dsimp only at hSw); go_simp; (try with_reducible rfl)))
      try simp only [Act.put, List.setIfInBounds_toArray, List.set_cons_zero, List.set_cons_succ]
      first | (refine wpAnyH_take (i := 12) (v := undef) (by simp only [List.getElem?_toArray, List.getElem?_cons_succ, List.getElem?_cons_zero]; rfl) (by kernel_rfl) (by kernel_rfl) (by kernel_rfl) (by exact fun _ _ _ h => h) (Or.inr ⟨by rfl, rfl⟩) (by assumption) ?_) | (refine wpAnyH_take (i := 12) (v := ?_) (by simp only [List.getElem?_toArray, List.getElem?_cons_succ, List.getElem?_cons_zero]; rfl) (by kernel_rfl) (by kernel_rfl) (by kernel_rfl) (by exact fun _ _ _ h => h) (Or.inl ⟨by rfl, ?_⟩) (by assumption) ?_; rotate_left; · (intro w hSw; (try dsimp only at hSw); go_simp; (try with_reducible rfl)))
      try simp only [Act.put, List.setIfInBounds_toArray, List.set_cons_zero, List.set_cons_succ]
      refine wpAnyH_ready (rs := [13]) (by kernel_rfl) (by simp) ?_
      refine AllReadyH.cons rfl (fun K hK => ?_) AllReadyH.nil
      go_simp
      refine (HC.out _ FR.out.drew).mono ?_
      rintro e w2 ⟨rfl, f2⟩
      have F2 := Lib.hid (FR.out.drew.then f2)
      clear f2
      go_wp2_with (fail)
      refine hK.out _ _ (HS.out _ F2.out) (fun hHeld2 => ?_)
      clear hK K
      try simp only [Act.put, List.setIfInBounds_toArray, List.set_cons_zero, List.set_cons_succ]
      first | (refine wpAnyH_take (i := 14) (v := undef) (by simp only [List.getElem?_toArray, List.getElem?_cons_succ, List.getElem?_cons_zero]; rfl) (by kernel_rfl) (by kernel_rfl) (by kernel_rfl) (by exact fun _ _ _ h => h) (Or.inr ⟨by rfl, rfl⟩) (by assumption) ?_) | (refine wpAnyH_take (i := 14) (v := ?_) (by simp only [List.getElem?_toArray, List.getElem?_cons_succ, List.getElem?_cons_zero]; rfl) (by kernel_rfl) (by kernel_rfl) (by kernel_rfl) (by exact fun _ _ _ h => h) (Or.inl ⟨by rfl, ?_⟩) (by assumption) ?_; rotate_left; · (intro w hSw; (try dsimp only at hSw); go_simp; (try with_reducible rfl)))
      try simp only [Act.put, List.setIfInBounds_toArray, List.set_cons_zero, List.set_cons_succ]
      first | (refine wpAnyH_take (i := 15) (v := undef) (by simp only [List.getElem?_toArray, List.getElem?_cons_succ, List.getElem?_cons_zero]; rfl) (by kernel_rfl) (by kernel_rfl) (by kernel_rfl) (by exact fun _ _ _ h => h) (Or.inr ⟨by rfl, rfl⟩) (by assumption) ?_) | (refine wpAnyH_take (i := 15) (v := ?_) (by simp only [List.getElem?_toArray, List.getElem?_cons_succ, List.getElem?_cons_zero]; rfl) (by kernel_rfl) (by kernel_rfl) (by kernel_rfl) (by exact fun _ _ _ h => h) (Or.inl ⟨by rfl, ?_⟩) (by assumption) ?_; rotate_left; · (intro w hSw; (try dsimp only at hSw); go_simp; (try with_reducible rfl)))
      try simp only [Act.put, List.setIfInBounds_toArray, List.set_cons_zero, List.set_cons_succ]
      first | (refine wpAnyH_take (i := 16) (v := undef) (by simp only [List.getElem?_toArray, List.getElem?_cons_succ, List.getElem?_cons_zero]; rfl) (by kernel_rfl) (by kernel_rfl) (by kernel_rfl) (by exact fun _ _ _ h => h) (Or.inr ⟨by rfl, rfl⟩) (by assumption) ?_) | (refine wpAnyH_take (i := 16) (v := ?_) (by simp only [List.getElem?_toArray, List.getElem?_cons_succ, List.getElem?_cons_zero]; rfl) (by kernel_rfl) (by kernel_rfl) (by kernel_rfl) (by exact fun _ _ _ h => h) (Or.inl ⟨by rfl, ?_⟩) (by assumption) ?_; rotate_left; · (intro w hSw; (try dsimp only at hSw); go_simp; (try with_reducible rfl)))
      try simp only [Act.put, List.setIfInBounds_toArray, List.set_cons_zero, List.set_cons_succ]
      first | (refine wpAnyH_take (i := 17) (v := undef) (by simp only [List.getElem?_toArray, List.getElem?_cons_succ, List.getElem?_cons_zero]; rfl) (by kernel_rfl) (by kernel_rfl) (by kernel_rfl) (by exact fun _ _ _ h => h) (Or.inr ⟨by rfl, rfl⟩) (by assumption) ?_) | (refine wpAnyH_take (i := 17) (v := ?_) (by simp only [List.getElem?_toArray, List.getElem?_cons_succ, List.getElem?_cons_zero]; rfl) (by kernel_rfl) (by kernel_rfl) (by kernel_rfl) (by exact fun _ _ _ h => h) (Or.inl ⟨by rfl, ?_⟩) (by assumption) ?_; rotate_left; · (intro w hSw; (try dsimp only at hSw); go_simp; (try with_reducible rfl)))
      try simp only [Act.put, List.setIfInBounds_toArray, List.set_cons_zero, List.set_cons_succ]
      first | (refine wpAnyH_take (i := 18) (v := undef) (by simp only [List.getElem?_toArray, List.getElem?_cons_succ, List.getElem?_cons_zero]; rfl) (by kernel_rfl) (by kernel_rfl) (by kernel_rfl) (by exact fun _ _ _ h => h) (Or.inr ⟨by rfl, rfl⟩) (by assumption) ?_) | (refine wpAnyH_take (i := 18) (v := ?_) (by simp only [List.getElem?_toArray, List.getElem?_cons_succ, List.getElem?_cons_zero]; rfl) (by kernel_rfl) (by kernel_rfl) (by kernel_rfl) (by exact fun _ _ _ h => h) (Or.inl ⟨by rfl, ?_⟩) (by assumption) ?_; rotate_left; · (intro w hSw; (try dsimp only at hSw); go_simp; (try with_reducible rfl)))
      try simp only [Act.put, List.setIfInBounds_toArray, List.set_cons_zero, List.set_cons_succ]
      first | (refine wpAnyH_take (i := 19) (v := undef) (by simp only [List.getElem?_toArray, List.getElem?_cons_succ, List.getElem?_cons_zero]; rfl) (by kernel_rfl) (by kernel_rfl) (by kernel_rfl) (by exact fun _ _ _ h => h) (Or.inr ⟨by rfl, rfl⟩) (by assumption) ?_) | (refine wpAnyH_take (i := 19) (v := ?_) (by simp only [List.getElem?_toArray, List.getElem?_cons_succ, List.getElem?_cons_zero]; rfl) (by kernel_rfl) (by kernel_rfl) (by kernel_rfl) (by exact fun _ _ _ h => h) (Or.inl ⟨by rfl, ?_⟩) (by assumption) ?_; rotate_left; · (intro w hSw; (try dsimp only at hSw); go_simp; (try with_reducible rfl)))
      try simp only [Act.put, List.setIfInBounds_toArray, List.set_cons_zero, List.set_cons_succ]
      first | (refine wpAnyH_take (i := 20) (v := undef) (by simp only [List.getElem?_toArray, List.getElem?_cons_succ, List.getElem?_cons_zero]; rfl) (by kernel_rfl) (by kernel_rfl) (by kernel_rfl) (by exact fun _ _ _ h => h) (Or.inr ⟨by rfl, rfl⟩) (by assumption) ?_) | (refine wpAnyH_take (i := 20) (v := ?_) (by simp only [List.getElem?_toArray, List.getElem?_cons_succ, List.getElem?_cons_zero]; rfl) (by kernel_rfl) (by kernel_rfl) (by kernel_rfl) (by exact fun _ _ _ h => h) (Or.inl ⟨by rfl, ?_⟩) (by assumption) ?_; rotate_left; · (intro w hSw; (try dsimp only at hSw); go_simp; (try with_reducible rfl)))
      try simp only [Act.put, List.setIfInBounds_toArray, List.set_cons_zero, List.set_cons_succ]
      first | (refine wpAnyH_take (i := 21) (v := undef) (by simp only [List.getElem?_toArray, List.getElem?_cons_succ, List.getElem?_cons_zero]; rfl) (by kernel_rfl) (by kernel_rfl) (by kernel_rfl) (by exact fun _ _ _ h => h) (Or.inr ⟨by rfl, rfl⟩) (by assumption) ?_) | (refine wpAnyH_take (i := 21) (v := ?_) (by simp only [List.getElem?_toArray, List.getElem?_cons_succ, List.getElem?_cons_zero]; rfl) (by kernel_rfl) (by kernel_rfl) (by kernel_rfl) (by exact fun _ _ _ h => h) (Or.inl ⟨by rfl, ?_⟩) (by assumption) ?_; rotate_left; · (intro w hSw; (try dsimp only at hSw); go_simp; (try with_reducible rfl)))
      try simp only [Act.put, List.setIfInBounds_toArray, List.set_cons_zero, List.set_cons_succ]
      first | (refine wpAnyH_take (i := 22) (v := undef) (by simp only [List.getElem?_toArray, List.getElem?_cons_succ, List.getElem?_cons_zero]; rfl) (by kernel_rfl) (by kernel_rfl) (by kernel_rfl) (by exact fun _ _ _ h => h) (Or.inr ⟨by rfl, rfl⟩) (by assumption) ?_) | (refine wpAnyH_take (i := 22) (v := ?_) (by simp only [List.getElem?_toArray, List.getElem?_cons_succ, List.getElem?_cons_zero]; rfl) (by kernel_rfl) (by kernel_rfl) (by kernel_rfl) (by exact fun _ _ _ h => h) (Or.inl ⟨by rfl, ?_⟩) (by assumption) ?_; rotate_left; · (intro w hSw; (try dsimp only at hSw); go_simp; (try with_reducible rfl)))
      try simp only [Act.put, List.setIfInBounds_toArray, List.set_cons_zero, List.set_cons_succ]
      first | (refine wpAnyH_take (i := 23) (v := undef) (by simp only [List.getElem?_toArray, List.getElem?_cons_succ, List.getElem?_cons_zero]; rfl) (by kernel_rfl) (by kernel_rfl) (by kernel_rfl) (by exact fun _ _ _ h => h) (Or.inr ⟨by rfl, rfl⟩) (by assumption) ?_) | (refine wpAnyH_take (i := 23) (v := ?_) (by simp only [List.getElem?_toArray, List.getElem?_cons_succ, List.getElem?_cons_zero]; rfl) (by kernel_rfl) (by kernel_rfl) (by kernel_rfl) (by exact fun _ _ _ h => h) (Or.inl ⟨by rfl, ?_⟩) (by assumption) ?_; rotate_left; · (intro w hSw; (try dsimp only at hSw); go_simp; (try with_reducible rfl)))
      try simp only [Act.put, List.setIfInBounds_toArray, List.set_cons_zero, List.set_cons_succ]
      first | (refine wpAnyH_take (i := 24) (v := undef) (by simp only [List.getElem?_toArray, List.getElem?_cons_succ, List.getElem?_cons_zero]; rfl) (by kernel_rfl) (by kernel_rfl) (by kernel_rfl) (by exact fun _ _ _ h => h) (Or.inr ⟨by rfl, rfl⟩) (by assumption) ?_) | (refine wpAnyH_take (i := 24) (v := ?_) (by simp only [List.getElem?_toArray, List.getElem?_cons_succ, List.getElem?_cons_zero]; rfl) (by kernel_rfl) (by kernel_rfl) (by kernel_rfl) (by exact fun _ _ _ h => h) (Or.inl ⟨by rfl, ?_⟩) (by assumption) ?_; rotate_left; · (intro w hSw; (try dsimp only at hSw); go_simp; (try with_reducible rfl)))
      try simp only [Act.put, List.setIfInBounds_toArray, List.set_cons_zero, List.set_cons_succ]
      first | (refine wpAnyH_take (i := 25) (v := undef) (by simp only [List.getElem?_toArray, List.getElem?_cons_succ, List.getElem?_cons_zero]; rfl) (by kernel_rfl) (by kernel_rfl) (by kernel_rfl) (by exact fun _ _ _ h => h) (Or.inr ⟨by rfl, rfl⟩) (by assumption) ?_) | (refine wpAnyH_take (i := 25) (v := ?_) (by simp only [List.getElem?_toArray, List.getElem?_cons_succ, List.getElem?_cons_zero]; rfl) (by kernel_rfl) (by kernel_rfl) (by kernel_rfl) (by exact fun _ _ _ h => h) (Or.inl ⟨by rfl, ?_⟩) (by assumption) ?_; rotate_left; · (intro w hSw; (try dsimp only at hSw); go_simp; (try with_reducible rfl)))
      try simp only [Act.put, List.setIfInBounds_toArray, List.set_cons_zero, List.set_cons_succ]
      first | (refine wpAnyH_take (i := 26) (v := undef) (by simp only [List.getElem?_toArray, List.getElem?_cons_succ, List.getElem?_cons_zero]; rfl) (by kernel_rfl) (by kernel_rfl) (by kernel_rfl) (by exact fun _ _ _ h => h) (Or.inr ⟨by rfl, rfl⟩) (by assumption) ?_) | (refine wpAnyH_take (i := 26) (v := ?_) (by simp only [List.getElem?_toArray, List.getElem?_cons_succ, List.getElem?_cons_zero]; rfl) (by kernel_rfl) (by kernel_rfl) (by kernel_rfl) (by exact fun _ _ _ h => h) (Or.inl ⟨by rfl, ?_⟩) (by assumption) ?_; rotate_left; · (intro w hSw; (try dsimp only at hSw); go_simp; (try with_reducible rfl)))
      try simp only [Act.put, List.setIfInBounds_toArray, List.set_cons_zero, List.set_cons_succ]
      first | (refine wpAnyH_take (i := 27) (v := undef) (by simp only [List.getElem?_toArray, List.getElem?_cons_succ, List.getElem?_cons_zero]; rfl) (by kernel_rfl) (by kernel_rfl) (by kernel_rfl) (by exact fun _ _ _ h => h) (Or.inr ⟨by rfl, rfl⟩) (by assumption) ?_) | (refine wpAnyH_take (i := 27) (v := ?_) (by simp only [List.getElem?_toArray, List.getElem?_cons_succ, List.getElem?_cons_zero]; rfl) (by kernel_rfl) (by kernel_rfl) (by kernel_rfl) (by exact fun _ _ _ h => h) (Or.inl ⟨by rfl, ?_⟩) (by assumption) ?_; rotate_left; · (intro w hSw; (try dsimp only at hSw); go_simp; (try with_reducible rfl)))
      try simp only [Act.put, List.setIfInBounds_toArray, List.set_cons_zero, List.set_cons_succ]
      first | (refine wpAnyH_take (i := 28) (v := undef) (by simp only [List.getElem?_toArray, List.getElem?_cons_succ, List.getElem?_cons_zero]; rfl) (by kernel_rfl) (by kernel_rfl) (by kernel_rfl) (by exact fun _ _ _ h => h) (Or.inr ⟨by rfl, rfl⟩) (by assumption) ?_) | (refine wpAnyH_take (i := 28) (v := ?_) (by simp only [List.getElem?_toArray, List.getElem?_cons_succ, List.getElem?_cons_zero]; rfl) (by kernel_rfl) (by kernel_rfl) (by kernel_rfl) (by exact fun _ _ _ h => h) (Or.inl ⟨by rfl, ?_⟩) (by assumption) ?_; rotate_left; · (intro w hSw; (try dsimp only at hSw); go_simp; (try with_reducible rfl)))
      try simp only [Act.put, List.setIfInBounds_toArray, List.set_cons_zero, List.set_cons_succ]
      first | (refine wpAnyH_take (i := 29) (v := undef) (by simp only [List.getElem?_toArray, List.getElem?_cons_succ, List.getElem?_cons_zero]; rfl) (by kernel_rfl) (by kernel_rfl) (by kernel_rfl) (by exact fun _ _ _ h => h) (Or.inr ⟨by rfl, rfl⟩) (by assumption) ?_) | (refine wpAnyH_take (i := 29) (v := ?_) (by simp only [List.getElem?_toArray, List.getElem?_cons_succ, List.getElem?_cons_zero]; rfl) (by kernel_rfl) (by kernel_rfl) (by kernel_rfl) (by exact fun _ _ _ h => h) (Or.inl ⟨by rfl, ?_⟩) (by assumption) ?_; rotate_left; · (intro w hSw; (try dsimp only at hSw); go_simp; (try with_reducible rfl)))
      try simp only [Act.put, List.setIfInBounds_toArray, List.set_cons_zero, List.set_cons_succ]
      first | (refine wpAnyH_take (i := 30) (v := undef) (by simp only [List.getElem?_toArray, List.getElem?_cons_succ, List.getElem?_cons_zero]; rfl) (by kernel_rfl) (by kernel_rfl) (by kernel_rfl) (by exact fun _ _ _ h => h) (Or.inr ⟨by rfl, rfl⟩) (by assumption) ?_) | (refine wpAnyH_take (i := 30) (v := ?_) (by simp only [List.getElem?_toArray, List.getElem?_cons_succ, List.getElem?_cons_zero]; rfl) (by kernel_rfl) (by kernel_rfl) (by kernel_rfl) (by exact fun _ _ _ h => h) (Or.inl ⟨by rfl, ?_⟩) (by assumption) ?_; rotate_left; · (intro w hSw; (try dsimp only at hSw); go_simp; (try with_reducible rfl)))
      try simp only [Act.put, List.setIfInBounds_toArray, List.set_cons_zero, List.set_cons_succ]
      first | (refine wpAnyH_take (i := 31) (v := undef) (by simp only [List.getElem?_toArray, List.getElem?_cons_succ, List.getElem?_cons_zero]; rfl) (by kernel_rfl) (by kernel_rfl) (by kernel_rfl) (by exact fun _ _ _ h => h) (Or.inr ⟨by rfl, rfl⟩) (by assumption) ?_) | (refine wpAnyH_take (i := 31) (v := ?_) (by simp only [List.getElem?_toArray, List.getElem?_cons_succ, List.getElem?_cons_zero]; rfl) (by kernel_rfl) (by kernel_rfl) (by kernel_rfl) (by exact fun _ _ _ h => h) (Or.inl ⟨by rfl, ?_⟩) (by assumption) ?_; rotate_left; · (intro w hSw; (try dsimp only at hSw); go_simp; (try with_reducible rfl)))
      try simp only [Act.put, List.setIfInBounds_toArray, List.set_cons_zero, List.set_cons_succ]
      first | (refine wpAnyH_take (i := 32) (v := undef) (by simp only [List.getElem?_toArray, List.getElem?_cons_succ, List.getElem?_cons_zero]; rfl) (by kernel_rfl) (by kernel_rfl) (by kernel_rfl) (by exact fun _ _ _ h => h) (Or.inr ⟨by rfl, rfl⟩) (by assumption) ?_) | (refine wpAnyH_take (i := 32) (v := ?_) (by simp only [List.getElem?_toArray, List.getElem?_cons_succ, List.getElem?_cons_zero]; rfl) (by kernel_rfl) (by kernel_rfl) (by kernel_rfl) (by exact fun _ _ _ h => h) (Or.inl ⟨by rfl, ?_⟩) (by assumption) ?_; rotate_left; · (intro w hSw; (try dsimp only at hSw); go_simp; (try with_reducible rfl)))
      try simp only [Act.put, List.setIfInBounds_toArray, List.set_cons_zero, List.set_cons_succ]
      first | (refine wpAnyH_take (i := 33) (v := undef) (by simp only [List.getElem?_toArray, List.getElem?_cons_succ, List.getElem?_cons_zero]; rfl) (by kernel_rfl) (by kernel_rfl) (by kernel_rfl) (by exact fun _ _ _ h => h) (Or.inr ⟨by rfl, rfl⟩) (by assumption) ?_) | (refine wpAnyH_take (i := 33) (v := ?_) (by simp only [List.getElem?_toArray, List.getElem?_cons_succ, List.getElem?_cons_zero]; rfl) (by kernel_rfl) (by kernel_rfl) (by kernel_rfl) (by exact fun _ _ _ h => h) (Or.inl ⟨by rfl, ?_⟩) (by assumption) ?_; rotate_left; · (intro w hSw; (try dsimp only at hSw); go_simp; (try with_reducible rfl)))
      try simp only [Act.put, List.setIfInBounds_toArray, List.set_cons_zero, List.set_cons_succ]
      first | (refine wpAnyH_take (i := 34) (v := undef) (by simp only [List.getElem?_toArray, List.getElem?_cons_succ, List.getElem?_cons_zero]; rfl) (by kernel_rfl) (by kernel_rfl) (by kernel_rfl) (by exact fun _ _ _ h => h) (Or.inr ⟨by rfl, rfl⟩) (by assumption) ?_) | (refine wpAnyH_take (i := 34) (v := ?_) (by simp only [List.getElem?_toArray, List.getElem?_cons_succ, List.getElem?_cons_zero]; rfl) (by kernel_rfl) (by kernel_rfl) (by kernel_rfl) (by exact fun _ _ _ h => h) (Or.inl ⟨by rfl, ?_⟩) (by assumption) ?_; rotate_left; · (intro w hSw; (try dsimp only at hSw); go_simp; (try with_reducible rfl)))
      try simp only [Act.put, List.setIfInBounds_toArray, List.set_cons_zero, List.set_cons_succ]
      refine wpAnyH_done (by kernel_rfl) ?_ _
      go_wp2
      go_roundw
      case rel => exact ⟨rfl, k + 1, by omega, by go_num, F2.out⟩
      case measure => simp [intOf]; omega
    · by_cases hlt2 : k < l.length + 12
      · obtain ⟨j, hj⟩ : ∃ j : Nat, k = l.length + j := ⟨k - l.length, by omega⟩
        obtain ⟨d0, d1⟩ := H3.out j (by omega)
        rw [← hj] at d0 d1
        have HS := Lib.hid (fun W (f : Fr NoB w W) => (show (fun W : World => W.cell? ⟨b', k * 2, none⟩ = some (.int .i64 (mkN j)) ∧ W.cell? ⟨b', k * 2 + 1, none⟩ = some (.slice none 0 0)) W from
          ⟨(f.cell (p := ⟨b', k * 2, none⟩) (by simp only; omega) (fun x => x)).trans d0, (f.cell (p := ⟨b', k * 2 + 1, none⟩) (by simp only; omega) (fun x => x)).trans d1⟩))
        have hi2 : (k : Int) < (l.length : Int) + 12 := by omega
        have hd1 : decide ((k : Int) < (l.length : Int)) = false := by simp; omega
        have hd2 : decide ((l.length : Int) ≤ (k : Int)) = true := by simp; omega
        have hd3 : decide (k < l.length) = false := by simp; omega
        have hd4 : decide (l.length ≤ k) = true := by simp; omega
        have hsub : IntKind.i64.wrap ((k : Int) - (l.length : Int)) = (j : Int) := by rw [IntKind.wrap_i64]; omega
        have HC := Lib.hid (fun W => marke_calls j (by omega) W)
        have HC2 := Lib.hid (fun W => sameE_calls (mkN j) none none [] 0 0 0 0 0 0 W (RdM.nil _ _ _ _) (Nat.zero_le _) (RdM.nil _ _ _ _) (Nat.zero_le _) (by simp))
        clear hj hlt d0 d1
        go_wp2
        refine wp_region_held_drew (S := fun W : World => W.cell? ⟨b', k * 2, none⟩ = some (.int .i64 (mkN j)) ∧ W.cell? ⟨b', k * 2 + 1, none⟩ = some (.slice none 0 0)) (by kernel_rfl) (HS.out _ FR.out.drew) (fun hHeld => ?_)
        first | (refine wpAnyH_take (i := 0) (v := undef) (by simp only [List.getElem?_toArray, List.getElem?_cons_zero]; rfl) (by kernel_rfl) (by kernel_rfl) (by kernel_rfl) (by exact fun _ _ _ h => h) (Or.inr ⟨by rfl, rfl⟩) (by assumption) ?_) | (refine wpAnyH_take (i := 0) (v := ?_) (by simp only [List.getElem?_toArray, List.getElem?_cons_zero]; rfl) (by kernel_rfl) (by kernel_rfl) (by kernel_rfl) (by exact fun _ _ _ h => h) (Or.inl ⟨by rfl, ?_⟩) (by assumption) ?_; rotate_left; · (intro w hSw; (try dsimp only at hSw); go_simp; (try with_reducible rfl)))
        try simp only [Act.put, List.setIfInBounds_toArray, List.set_cons_zero, List.set_cons_succ]
        first | (refine wpAnyH_take (i := 1) (v := undef) (by simp only [List.getElem?_toArray, List.getElem?_cons_succ, List.getElem?_cons_zero]; rfl) (by kernel_rfl) (by kernel_rfl) (by kernel_rfl) (by exact fun _ _ _ h => h) (Or.inr ⟨by rfl, rfl⟩) (by assumption) ?_) | (refine wpAnyH_take (i := 1) (v := ?_) (by simp only [List.getElem?_toArray, List.getElem?_cons_succ, List.getElem?_cons_zero]; rfl) (by kernel_rfl) (by kernel_rfl) (by kernel_rfl) (by exact fun _ _ _ h => h) (Or.inl ⟨by rfl, ?_⟩) (by assumption) ?_; rotate_left; · (intro w hSw; (try dsimp only at hSw); go_simp; (try with_reducible rfl)))
        try simp only [Act.put, List.setIfInBounds_toArray, List.set_cons_zero, List.set_cons_succ]
        first | (refine wpAnyH_take (i := 2) (v := undef) (by simp only [List.getElem?_toArray, List.getElem?_cons_succ, List.getElem?_cons_zero]; rfl) (by kernel_rfl) (by kernel_rfl) (by kernel_rfl) (by exact fun _ _ _ h => h) (Or.inr ⟨by rfl, rfl⟩) (by assumption) ?_) | (refine wpAnyH_take (i := 2) (v := ?_) (by simp only [List.getElem?_toArray, List.getElem?_cons_succ, List.getElem?_cons_zero]; rfl) (by kernel_rfl) (by kernel_rfl) (by kernel_rfl) (by exact fun _ _ _ h => h) (Or.inl ⟨by rfl, ?_⟩) (by assumption) ?_; rotate_left; · (intro w hSw; (try dsimp only at hSw); go_simp; (try with_reducible rfl)))
        try simp only [Act.put, List.setIfInBounds_toArray, List.set_cons_zero, List.set_cons_succ]
        first | (refine wpAnyH_take (i := 3) (v := undef) (by simp only [List.getElem?_toArray, List.getElem?_cons_succ, List.getElem?_cons_zero]; rfl) (by kernel_rfl) (by kernel_rfl) (by kernel_rfl) (by exact fun _ _ _ h => h) (Or.inr ⟨by rfl, rfl⟩) (by assumption) ?_) | (refine wpAnyH_take (i := 3) (v := ?_) (by simp only [List.getElem?_toArray, List.getElem?_cons_succ, List.getElem?_cons_zero]; rfl) (by kernel_rfl) (by kernel_rfl) (by kernel_rfl) (by exact fun _ _ _ h => h) (Or.inl ⟨by rfl, ?_⟩) (by assumption) ?_; rotate_left; · (intro w hSw; (try dsimp only at hSw); go_simp; (try with_reducible rfl)))
        try simp only [Act.put, List.setIfInBounds_toArray, List.set_cons_zero, List.set_cons_succ]
        first | (refine wpAnyH_take (i := 4) (v := undef) (by simp only [List.getElem?_toArray, List.getElem?_cons_succ, List.getElem?_cons_zero]; rfl) (by kernel_rfl) (by kernel_rfl) (by kernel_rfl) (by exact fun _ _ _ h => h) (Or.inr ⟨by rfl, rfl⟩) (by assumption) ?_) | (refine wpAnyH_take (i := 4) (v := ?_) (by simp only [List.getElem?_toArray, List.getElem?_cons_succ, List.getElem?_cons_zero]; rfl) (by kernel_rfl) (by kernel_rfl) (by kernel_rfl) (by exact fun _ _ _ h => h) (Or.inl ⟨by rfl, ?_⟩) (by assumption) ?_; rotate_left; · (intro w hSw; (try dsimp only at hSw); go_simp; (try with_reducible rfl)))
        try simp only [Act.put, List.setIfInBounds_toArray, List.set_cons_zero, List.set_cons_succ]
        first | (refine wpAnyH_take (i := 5) (v := undef) (by simp only [List.getElem?_toArray, List.getElem?_cons_succ, List.getElem?_cons_zero]; rfl) (by kernel_rfl) (by kernel_rfl) (by kernel_rfl) (by exact fun _ _ _ h => h) (Or.inr ⟨by rfl, rfl⟩) (by assumption) ?_) | (refine wpAnyH_take (i := 5) (v := ?_) (by simp only [List.getElem?_toArray, List.getElem?_cons_succ, List.getElem?_cons_zero]; rfl) (by kernel_rfl) (by kernel_rfl) (by kernel_rfl) (by exact fun _ _ _ h => h) (Or.inl ⟨by rfl, ?_⟩) (by assumption) ?_; rotate_left; · (intro w hSw; (try dsimp only at hSw); go_simp; (try with_reducible rfl)))
        try simp only [Act.put, List.setIfInBounds_toArray, List.set_cons_zero, List.set_cons_succ]
        first | (refine wpAnyH_take (i := 6) (v := undef) (by simp only [List.getElem?_toArray, List.getElem?_cons_succ, List.getElem?_cons_zero]; rfl) (by kernel_rfl) (by kernel_rfl) (by kernel_rfl) (by exact fun _ _ _ h => h) (Or.inr ⟨by rfl, rfl⟩) (by assumption) ?_) | (refine wpAnyH_take (i := 6) (v := ?_) (by simp only [List.getElem?_toArray, List.getElem?_cons_succ, List.getElem?_cons_zero]; rfl) (by kernel_rfl) (by kernel_rfl) (by kernel_rfl) (by exact fun _ _ _ h => h) (Or.inl ⟨by rfl, ?_⟩) (by assumption) ?_; rotate_left; · (intro w hSw; (try dsimp only at hSw); go_simp; (try with_reducible rfl)))
        try simp only [Act.put, List.setIfInBounds_toArray, List.set_cons_zero, List.set_cons_succ]
        first | (refine wpAnyH_take (i := 7) (v := undef) (by simp only [List.getElem?_toArray, List.getElem?_cons_succ, List.getElem?_cons_zero]; rfl) (by kernel_rfl) (by kernel_rfl) (by kernel_rfl) (by exact fun _ _ _ h => h) (Or.inr ⟨by rfl, rfl⟩) (by assumption) ?_) | (refine wpAnyH_take (i := 7) (v := ?_) (by simp only [List.getElem?_toArray, List.getElem?_cons_succ, List.getElem?_cons_zero]; rfl) (by kernel_rfl) (by kernel_rfl) (by kernel_rfl) (by exact fun _ _ _ h => h) (Or.inl ⟨by rfl, ?_⟩) (by assumption) ?_; rotate_left; · (intro w hSw; (try dsimp only at hSw); go_simp; (try with_reducible rfl)))
        try simp only [Act.put, List.setIfInBounds_toArray, List.set_cons_zero, List.set_cons_succ]
        first | (refine wpAnyH_take (i := 8) (v := undef) (by simp only [List.getElem?_toArray, List.getElem?_cons_succ, List.getElem?_cons_zero]; rfl) (by kernel_rfl) (by kernel_rfl) (by kernel_rfl) (by exact fun _ _ _ h => h) (Or.inr ⟨by rfl, rfl⟩) (by assumption) ?_) | (refine wpAnyH_take (i := 8) (v := ?_) (by simp only [List.getElem?_toArray, List.getElem?_cons_succ, List.getElem?_cons_zero]; rfl) (by kernel_rfl) (by kernel_rfl) (by kernel_rfl) (by exact fun _ _ _ h => h) (Or.inl ⟨by rfl, ?_⟩) (by assumption) ?_; rotate_left; · (intro w hSw; (try dsimp only at hSw); go_simp; (try with_reducible rfl)))
        try simp only [Act.put, List.setIfInBounds_toArray, List.set_cons_zero, List.set_cons_succ]
        first | (refine wpAnyH_take (i := 9) (v := undef) (by simp only [List.getElem?_toArray, List.getElem?_cons_succ, List.getElem?_cons_zero]; rfl) (by kernel_rfl) (by kernel_rfl) (by kernel_rfl) (by exact fun _ _ _ h => h) (Or.inr ⟨by rfl, rfl⟩) (by assumption) ?_) | (refine wpAnyH_take (i := 9) (v := ?_) (by simp only [List.getElem?_toArray, List.getElem?_cons_succ, List.getElem?_cons_zero]; rfl) (by kernel_rfl) (by kernel_rfl) (by kernel_rfl) (by exact fun _ _ _ h => h) (Or.inl ⟨by rfl, ?_⟩) (by assumption) ?_; rotate_left; · (intro w hSw; (try dsimp only at hSw); go_simp; (try with_reducible rfl)))
        try simp only [Act.put, List.setIfInBounds_toArray, List.set_cons_zero, List.set_cons_succ]
        first | (refine wpAnyH_take (i := 10) (v := undef) (by simp only [List.getElem?_toArray, List.getElem?_cons_succ, List.getElem?_cons_zero]; rfl) (by kernel_rfl) (by kernel_rfl) (by kernel_rfl) (by exact fun _ _ _ h => h) (Or.inr ⟨by rfl, rfl⟩) (by assumption) ?_) | (refine wpAnyH_take (i := 10) (v := ?_) (by simp only [List.getElem?_toArray, List.getElem?_cons_succ, List.getElem?_cons_zero]; rfl) (by kernel_rfl) (by kernel_rfl) (by kernel_rfl) (by exact fun _ _ _ h => h) (Or.inl ⟨by rfl, ?_⟩) (by assumption) ?_; rotate_left; · (intro w hSw; (try dsimp only at hSw); go_simp; (try with_reducible rfl)))
        try simp only [Act.put, List.setIfInBounds_toArray, List.set_cons_zero, List.set_cons_succ]
        first | (refine wpAnyH_take (i := 11) (v := undef) (by simp only [List.getElem?_toArray, List.getElem?_cons_succ, List.getElem?_cons_zero]; rfl) (by kernel_rfl) (by kernel_rfl) (by kernel_rfl) (by exact fun _ _ _ h => h) (Or.inr ⟨by rfl, rfl⟩) (by assumption) ?_) | (refine wpAnyH_take (i := 11) (v := ?_) (by simp only [List.getElem?_toArray, List.getElem?_cons_succ, List.getElem?_cons_zero]; rfl) (by kernel_rfl) (by kernel_rfl) (by kernel_rfl) (by exact fun _ _ _ h => h) (Or.inl ⟨by rfl, ?_⟩) (by assumption) ?_; rotate_left; · (intro w hSw; (try dsimp only at hSw); go_simp; (try with_reducible rfl)))
        try simp only [Act.put, List.setIfInBounds_toArray, List.set_cons_zero, List.set_cons_succ]
        first | (refine wpAnyH_take (i := 12) (v := undef) (by simp only [List.getElem?_toArray, List.getElem?_cons_succ, List.getElem?_cons_zero]; rfl) (by kernel_rfl) (by kernel_rfl) (by kernel_rfl) (by exact fun _ _ _ h => h) (Or.inr ⟨by rfl, rfl⟩) (by assumption) ?_) | (refine wpAnyH_take (i := 12) (v := ?_) (by simp only [List.getElem?_toArray, List.getElem?_cons_succ, List.getElem?_cons_zero]; rfl) (by kernel_rfl) (by kernel_rfl) (by kernel_rfl) (by exact fun _ _ _ h => h) (Or.inl ⟨by rfl, ?_⟩) (by assumption) ?_; rotate_left; · (intro w hSw; (try dsimp only at hSw); go_simp; (try with_reducible rfl)))
        try simp only [Act.put, List.setIfInBounds_toArray, List.set_cons_zero, List.set_cons_succ]
        first | (refine wpAnyH_take (i := 13) (v := undef) (by simp only [List.getElem?_toArray, List.getElem?_cons_succ, List.getElem?_cons_zero]; rfl) (by kernel_rfl) (by kernel_rfl) (by kernel_rfl) (by exact fun _ _ _ h => h) (Or.inr ⟨by rfl, rfl⟩) (by assumption) ?_) | (refine wpAnyH_take (i := 13) (v := ?_) (by simp only [List.getElem?_toArray, List.getElem?_cons_succ, List.getElem?_cons_zero]; rfl) (by kernel_rfl) (by kernel_rfl) (by kernel_rfl) (by exact fun _ _ _ h => h) (Or.inl ⟨by rfl, ?_⟩) (by assumption) ?_; rotate_left; · (intro w hSw; (try dsimp only at hSw); go_simp; (try with_reducible rfl)))
        try simp only [Act.put, List.setIfInBounds_toArray, List.set_cons_zero, List.set_cons_succ]
        first | (refine wpAnyH_take (i := 14) (v := undef) (by simp only [List.getElem?_toArray, List.getElem?_cons_succ, List.getElem?_cons_zero]; rfl) (by kernel_rfl) (by kernel_rfl) (by kernel_rfl) (by exact fun _ _ _ h => h) (Or.inr ⟨by rfl, rfl⟩) (by assumption) ?_) | (refine wpAnyH_take (i := 14) (v := ?_) (by simp only [List.getElem?_toArray, List.getElem?_cons_succ, List.getElem?_cons_zero]; rfl) (by kernel_rfl) (by kernel_rfl) (by kernel_rfl) (by exact fun _ _ _ h => h) (Or.inl ⟨by rfl, ?_⟩) (by assumption) ?_; rotate_left; · (intro w hSw; (try dsimp only at hSw); go_simp; (try with_reducible rfl)))
        try simp only [Act.put, List.setIfInBounds_toArray, List.set_cons_zero, List.set_cons_succ]
        first | (refine wpAnyH_take (i := 15) (v := undef) (by simp only [List.getElem?_toArray, List.getElem?_cons_succ, List.getElem?_cons_zero]; rfl) (by kernel_rfl) (by kernel_rfl) (by kernel_rfl) (by exact fun _ _ _ h => h) (Or.inr ⟨by rfl, rfl⟩) (by assumption) ?_) | (refine wpAnyH_take (i := 15) (v := ?_) (by simp only [List.getElem?_toArray, List.getElem?_cons_succ, List.getElem?_cons_zero]; rfl) (by kernel_rfl) (by kernel_rfl) (by kernel_rfl) (by exact fun _ _ _ h => h) (Or.inl ⟨by rfl, ?_⟩) (by assumption) ?_; rotate_left; · (intro w hSw; (try dsimp only at hSw); go_simp; (try with_reducible rfl)))
        try simp only [Act.put, List.setIfInBounds_toArray, List.set_cons_zero, List.set_cons_succ]
        first | (refine wpAnyH_take (i := 16) (v := undef) (by simp only [List.getElem?_toArray, List.getElem?_cons_succ, List.getElem?_cons_zero]; rfl) (by kernel_rfl) (by kernel_rfl) (by kernel_rfl) (by exact fun _ _ _ h => h) (Or.inr ⟨by rfl, rfl⟩) (by assumption) ?_) | (refine wpAnyH_take (i := 16) (v := ?_) (by simp only [List.getElem?_toArray, List.getElem?_cons_succ, List.getElem?_cons_zero]; rfl) (by kernel_rfl) (by kernel_rfl) (by kernel_rfl) (by exact fun _ _ _ h => h) (Or.inl ⟨by rfl, ?_⟩) (by assumption) ?_; rotate_left; · (intro w hSw; (try dsimp only at hSw); go_simp; (try with_reducible rfl)))
        try simp only [Act.put, List.setIfInBounds_toArray, List.set_cons_zero, List.set_cons_succ]
        first | (refine wpAnyH_take (i := 17) (v := undef) (by simp only [List.getElem?_toArray, List.getElem?_cons_succ, List.getElem?_cons_zero]; rfl) (by kernel_rfl) (by kernel_rfl) (by kernel_rfl) (by exact fun _ _ _ h => h) (Or.inr ⟨by rfl, rfl⟩) (by assumption) ?_) | (refine wpAnyH_take (i := 17) (v := ?_) (by simp only [List.getElem?_toArray, List.getElem?_cons_succ, List.getElem?_cons_zero]; rfl) (by kernel_rfl) (by kernel_rfl) (by kernel_rfl) (by exact fun _ _ _ h => h) (Or.inl ⟨by rfl, ?_⟩) (by assumption) ?_; rotate_left; · (intro w hSw; (try dsimp only at hSw); go_simp; (try with_reducible rfl)))
        try simp only [Act.put, List.setIfInBounds_toArray, List.set_cons_zero, List.set_cons_succ]
        first | (refine wpAnyH_take (i := 18) (v := undef) (by simp only [List.getElem?_toArray, List.getElem?_cons_succ, List.getElem?_cons_zero]; rfl) (by kernel_rfl) (by kernel_rfl) (by kernel_rfl) (by exact fun _ _ _ h => h) (Or.inr ⟨by rfl, rfl⟩) (by assumption) ?_) | (refine wpAnyH_take (i := 18) (v := ?_) (by simp only [List.getElem?_toArray, List.getElem?_cons_succ, List.getElem?_cons_zero]; rfl) (by kernel_rfl) (by kernel_rfl) (by kernel_rfl) (by exact fun _ _ _ h => h) (Or.inl ⟨by rfl, ?_⟩) (by assumption) ?_; rotate_left; · (intro w hSw; (try dsimp only at hSw); go_simp; (try with_reducible rfl)))
        try simp only [Act.put, List.setIfInBounds_toArray, List.set_cons_zero, List.set_cons_succ]
        first | (refine wpAnyH_take (i := 19) (v := undef) (by simp only [List.getElem?_toArray, List.getElem?_cons_succ, List.getElem?_cons_zero]; rfl) (by kernel_rfl) (by kernel_rfl) (by kernel_rfl) (by exact fun _ _ _ h => h) (Or.inr ⟨by rfl, rfl⟩) (by assumption) ?_) | (refine wpAnyH_take (i := 19) (v := ?_) (by simp only [List.getElem?_toArray, List.getElem?_cons_succ, List.getElem?_cons_zero]; rfl) (by kernel_rfl) (by kernel_rfl) (by kernel_rfl) (by exact fun _ _ _ h => h) (Or.inl ⟨by rfl, ?_⟩) (by assumption) ?_; rotate_left; · (intro w hSw; (try dsimp only at hSw); go_simp; (try with_reducible rfl)))
        try simp only [Act.put, List.setIfInBounds_toArray, List.set_cons_zero, List.set_cons_succ]
        first | (refine wpAnyH_take (i := 20) (v := undef) (by simp only [List.getElem?_toArray, List.getElem?_cons_succ, List.getElem?_cons_zero]; rfl) (by kernel_rfl) (by kernel_rfl) (by kernel_rfl) (by exact fun _ _ _ h => h) (Or.inr ⟨by rfl, rfl⟩) (by assumption) ?_) | (refine wpAnyH_take (i := 20) (v := ?_) (by simp only [List.getElem?_toArray, List.getElem?_cons_succ, List.getElem?_cons_zero]; rfl) (by kernel_rfl) (by kernel_rfl) (by kernel_rfl) (by exact fun _ _ _ h => h) (Or.inl ⟨by rfl, ?_⟩) (by assumption) ?_; rotate_left; · (intro w hSw; (try dsimp only at hSw); go_simp; (try with_reducible rfl)))
        try simp only [Act.put, List.setIfInBounds_toArray, List.set_cons_zero, List.set_cons_succ]
        first | (refine wpAnyH_take (i := 21) (v := undef) (by simp only [List.getElem?_toArray, List.getElem?_cons_succ, List.getElem?_cons_zero]; rfl) (by kernel_rfl) (by kernel_rfl) (by kernel_rfl) (by exact fun _ _ _ h => h) (Or.inr ⟨by rfl, rfl⟩) (by assumption) ?_) | (refine wpAnyH_take (i := 21) (v := ?_) (by simp only [List.getElem?_toArray, List.getElem?_cons_succ, List.getElem?_cons_zero]; rfl) (by kernel_rfl) (by kernel_rfl) (by kernel_rfl) (by exact fun _ _ _ h => h) (Or.inl ⟨by rfl, ?_⟩) (by assumption) ?_; rotate_left; · (intro w hSw; (try dsimp only at hSw); go_simp; (try with_reducible rfl)))
        try simp only [Act.put, List.setIfInBounds_toArray, List.set_cons_zero, List.set_cons_succ]
        first | (refine wpAnyH_take (i := 22) (v := undef) (by simp only [List.getElem?_toArray, List.getElem?_cons_succ, List.getElem?_cons_zero]; rfl) (by kernel_rfl) (by kernel_rfl) (by kernel_rfl) (by exact fun _ _ _ h => h) (Or.inr ⟨by rfl, rfl⟩) (by assumption) ?_) | (refine wpAnyH_take (i := 22) (v := ?_) (by simp only [List.getElem?_toArray, List.getElem?_cons_succ, List.getElem?_cons_zero]; rfl) (by kernel_rfl) (by kernel_rfl) (by kernel_rfl) (by exact fun _ _ _ h => h) (Or.inl ⟨by rfl, ?_⟩) (by assumption) ?_; rotate_left; · (intro w hSw; (try dsimp only at hSw); go_simp; (try with_reducible rfl)))
        try simp only [Act.put, List.setIfInBounds_toArray, List.set_cons_zero, List.set_cons_succ]
        first | (refine wpAnyH_take (i := 23) (v := undef) (by simp only [List.getElem?_toArray, List.getElem?_cons_succ, List.getElem?_cons_zero]; rfl) (by kernel_rfl) (by kernel_rfl) (by kernel_rfl) (by exact fun _ _ _ h => h) (Or.inr ⟨by rfl, rfl⟩) (by assumption) ?_) | (refine wpAnyH_take (i := 23) (v := ?_) (by simp only [List.getElem?_toArray, List.getElem?_cons_succ, List.getElem?_cons_zero]; rfl) (by kernel_rfl) (by kernel_rfl) (by kernel_rfl) (by exact fun _ _ _ h => h) (Or.inl ⟨by rfl, ?_⟩) (by assumption) ?_; rotate_left; · (intro w hSw; (try dsimp only at hSw); go_simp; (try with_reducible rfl)))
        try simp only [Act.put, List.setIfInBounds_toArray, List.set_cons_zero, List.set_cons_succ]
        first | (refine wpAnyH_take (i := 24) (v := undef) (by simp only [List.getElem?_toArray, List.getElem?_cons_succ, List.getElem?_cons_zero]; rfl) (by kernel_rfl) (by kernel_rfl) (by kernel_rfl) (by exact fun _ _ _ h => h) (Or.inr ⟨by rfl, rfl⟩) (by assumption) ?_) | (refine wpAnyH_take (i := 24) (v := ?_) (by simp only [List.getElem?_toArray, List.getElem?_cons_succ, List.getElem?_cons_zero]; rfl) (by kernel_rfl) (by kernel_rfl) (by kernel_rfl) (by exact fun _ _ _ h => h) (Or.inl ⟨by rfl, ?_⟩) (by assumption) ?_; rotate_left; · (intro w hSw; (try dsimp only at hSw); go_simp; (try with_reducible rfl)))
        try simp only [Act.put, List.setIfInBounds_toArray, List.set_cons_zero, List.set_cons_succ]
        first | (refine wpAnyH_take (i := 25) (v := undef) (by simp only [List.getElem?_toArray, List.getElem?_cons_succ, List.getElem?_cons_zero]; rfl) (by kernel_rfl) (by kernel_rfl) (by kernel_rfl) (by exact fun _ _ _ h => h) (Or.inr ⟨by rfl, rfl⟩) (by assumption) ?_) | (refine wpAnyH_take (i := 25) (v := ?_) (by simp only [List.getElem?_toArray, List.getElem?_cons_succ, List.getElem?_cons_zero]; rfl) (by kernel_rfl) (by kernel_rfl) (by kernel_rfl) (by exact fun _ _ _ h => h) (Or.inl ⟨by rfl, ?_⟩) (by assumption) ?_; rotate_left; · (intro w hSw; (try dsimp only at hSw); go_simp; (try with_reducible rfl)))
        try simp only [Act.put, List.setIfInBounds_toArray, List.set_cons_zero, List.set_cons_succ]
        first | (refine wpAnyH_take (i := 26) (v := undef) (by simp only [List.getElem?_toArray, List.getElem?_cons_succ, List.getElem?_cons_zero]; rfl) (by kernel_rfl) (by kernel_rfl) (by kernel_rfl) (by exact fun _ _ _ h => h) (Or.inr ⟨by rfl, rfl⟩) (by assumption) ?_) | (refine wpAnyH_take (i := 26) (v := ?_) (by simp only [List.getElem?_toArray, List.getElem?_cons_succ, List.getElem?_cons_zero]; rfl) (by kernel_rfl) (by kernel_rfl) (by kernel_rfl) (by exact fun _ _ _ h => h) (Or.inl ⟨by rfl, ?_⟩) (by assumption) ?_; rotate_left; · (intro w hSw; (try dsimp only at hSw); go_simp; (try with_reducible rfl)))
        try simp only [Act.put, List.setIfInBounds_toArray, List.set_cons_zero, List.set_cons_succ]
        first | (refine wpAnyH_take (i := 27) (v := undef) (by simp only [List.getElem?_toArray, List.getElem?_cons_succ, List.getElem?_cons_zero]; rfl) (by kernel_rfl) (by kernel_rfl) (by kernel_rfl) (by exact fun _ _ _ h => h) (Or.inr ⟨by rfl, rfl⟩) (by assumption) ?_) | (refine wpAnyH_take (i := 27) (v := ?_) (by simp only [List.getElem?_toArray, List.getElem?_cons_succ, List.getElem?_cons_zero]; rfl) (by kernel_rfl) (by kernel_rfl) (by kernel_rfl) (by exact fun _ _ _ h => h) (Or.inl ⟨by rfl, ?_⟩) (by assumption) ?_; rotate_left; · (intro w hSw; (try dsimp only at hSw); go_simp; (try with_reducible rfl)))
        try simp only [Act.put, List.setIfInBounds_toArray, List.set_cons_zero, List.set_cons_succ]
        first | (refine wpAnyH_take (i := 28) (v := undef) (by simp only [List.getElem?_toArray, List.getElem?_cons_succ, List.getElem?_cons_zero]; rfl) (by kernel_rfl) (by kernel_rfl) (by kernel_rfl) (by exact fun _ _ _ h => h) (Or.inr ⟨by rfl, rfl⟩) (by assumption) ?_) | (refine wpAnyH_take (i := 28) (v := ?_) (by simp only [List.getElem?_toArray, List.getElem?_cons_succ, List.getElem?_cons_zero]; rfl) (by kernel_rfl) (by kernel_rfl) (by kernel_rfl) (by exact fun _ _ _ h => h) (Or.inl ⟨by rfl, ?_⟩) (by assumption) ?_; rotate_left; · (intro w hSw; (try dsimp only at hSw); go_simp; (try with_reducible rfl)))
        try simp only [Act.put, List.setIfInBounds_toArray, List.set_cons_zero, List.set_cons_succ]
        first | (refine wpAnyH_take (i := 29) (v := undef) (by simp only [List.getElem?_toArray, List.getElem?_cons_succ, List.getElem?_cons_zero]; rfl) (by kernel_rfl) (by kernel_rfl) (by kernel_rfl) (by exact fun _ _ _ h => h) (Or.inr ⟨by rfl, rfl⟩) (by assumption) ?_) | (refine wpAnyH_take (i := 29) (v := ?_) (by simp only [List.getElem?_toArray, List.getElem?_cons_succ, List.getElem?_cons_zero]; rfl) (by kernel_rfl) (by kernel_rfl) (by kernel_rfl) (by exact fun _ _ _ h => h) (Or.inl ⟨by rfl, ?_⟩) (by assumption) ?_; rotate_left; · (intro w hSw; (try dsimp only at hSw); go_simp; (try with_reducible rfl)))
        try simp only [Act.put, List.setIfInBounds_toArray, List.set_cons_zero, List.set_cons_succ]
        refine wpAnyH_ready (rs := [30]) (by kernel_rfl) (by simp) ?_
        refine AllReadyH.cons rfl (fun K hK => ?_) AllReadyH.nil
        go_simp
        refine (HC.out _).mono ?_
        rintro e w2 ⟨rfl, f2⟩
        have F2 := Lib.hid (FR.out.drew.then f2)
        clear f2
        go_wp2_with (fail)
        refine hK.out _ _ (HS.out _ F2.out) (fun hHeld2 => ?_)
        clear hK K
        try simp only [Act.put, List.setIfInBounds_toArray, List.set_cons_zero, List.set_cons_succ]
        refine wpAnyH_ready (rs := [31]) (by kernel_rfl) (by simp) ?_
        refine AllReadyH.cons rfl (fun K hK => ?_) AllReadyH.nil
        go_simp
        refine (HC2.out _).mono ?_
        rintro e w3 ⟨rfl, f3⟩
        have F3 := Lib.hid (F2.out.then f3)
        clear f3
        go_wp2_with (fail)
        refine hK.out _ _ (HS.out _ F3.out) (fun hHeld3 => ?_)
        clear hK K
        try simp only [Act.put, List.setIfInBounds_toArray, List.set_cons_zero, List.set_cons_succ]
        first | (refine wpAnyH_take (i := 32) (v := undef) (by simp only [List.getElem?_toArray, List.getElem?_cons_succ, List.getElem?_cons_zero]; rfl) (by kernel_rfl) (by kernel_rfl) (by kernel_rfl) (by exact fun _ _ _ h => h) (Or.inr ⟨by rfl, rfl⟩) (by assumption) ?_) | (refine wpAnyH_take (i := 32) (v := ?_) (by simp only [List.getElem?_toArray, List.getElem?_cons_succ, List.getElem?_cons_zero]; rfl) (by kernel_rfl) (by kernel_rfl) (by kernel_rfl) (by exact fun _ _ _ h => h) (Or.inl ⟨by rfl, ?_⟩) (by assumption) ?_; rotate_left; · (intro w hSw; (try dsimp only at hSw); go_simp; (try with_reducible rfl)))
        try simp only [Act.put, List.setIfInBounds_toArray, List.set_cons_zero, List.set_cons_succ]
        first | (refine wpAnyH_take (i := 33) (v := undef) (by simp only [List.getElem?_toArray, List.getElem?_cons_succ, List.getElem?_cons_zero]; rfl) (by kernel_rfl) (by kernel_rfl) (by kernel_rfl) (by exact fun _ _ _ h => h) (Or.inr ⟨by rfl, rfl⟩) (by assumption) ?_) | (refine wpAnyH_take (i := 33) (v := ?_) (by simp only [List.getElem?_toArray, List.getElem?_cons_succ, List.getElem?_cons_zero]; rfl) (by kernel_rfl) (by kernel_rfl) (by kernel_rfl) (by exact fun _ _ _ h => h) (Or.inl ⟨by rfl, ?_⟩) (by assumption) ?_; rotate_left; · (intro w hSw; (try dsimp only at hSw); go_simp; (try with_reducible rfl)))
        try simp only [Act.put, List.setIfInBounds_toArray, List.set_cons_zero, List.set_cons_succ]
        first | (refine wpAnyH_take (i := 34) (v := undef) (by simp only [List.getElem?_toArray, List.getElem?_cons_succ, List.getElem?_cons_zero]; rfl) (by kernel_rfl) (by kernel_rfl) (by kernel_rfl) (by exact fun _ _ _ h => h) (Or.inr ⟨by rfl, rfl⟩) (by assumption) ?_) | (refine wpAnyH_take (i := 34) (v := ?_) (by simp only [List.getElem?_toArray, List.getElem?_cons_succ, List.getElem?_cons_zero]; rfl) (by kernel_rfl) (by kernel_rfl) (by kernel_rfl) (by exact fun _ _ _ h => h) (Or.inl ⟨by rfl, ?_⟩) (by assumption) ?_; rotate_left; · (intro w hSw; (try dsimp only at hSw); go_simp; (try with_reducible rfl)))
        try simp only [Act.put, List.setIfInBounds_toArray, List.set_cons_zero, List.set_cons_succ]
        refine wpAnyH_done (by kernel_rfl) ?_ _
        go_wp2
        go_roundw
        case rel => exact ⟨rfl, k + 1, by omega, by go_num, F3.out⟩
        case measure => simp [intOf]; omega
      · obtain rfl : k = l.length + 12 := by omega
        have hi2 : ¬ ((l.length : Int) + 12 < (l.length : Int) + 12) := by omega
        clear hlt hlt2 hk H1 H2 H3
        go_wp2
        go_ret
        exact ⟨rfl, FR.out⟩

end Go.Proofs.YtbgpgaekckfjlaaDoor
