/-
  Aop: calls, replies, events that came in.
-/
import Derived.Test.YtlckgkpgllhpbaaDoorRows
import Derived.Test.YtlckgkpgllhpbaaDoorOpen
import Derived.Test.YtlckgkpgllhpbaaDoorAkm
import Derived.Deep.Slices
import Derived.Deep.Strs
import Derived.Lib.SmallJoins
import Derived.ChangeArms
namespace Go.Proofs.YtlckgkpgllhpbaaDoor
open Go.ChangeShapes Go.WideShapes Go.ChangeAt Go.RowKit Go.Deep Go.Joins
set_option maxRecDepth 8000

theorem list_of_at {α : Type} (n : Nat) (P : Nat → α → Prop) (h : ∀ i, i < n → ∃ x, P i x) : ∃ l : List α, l.length = n ∧ ∀ i x, l[i]? = some x → P i x := by
  induction n with
  | zero => exact ⟨[], rfl, fun i x h => by simp at h⟩
  | succ n ih =>
    obtain ⟨l, hl, hp⟩ := ih fun i hi => h i (by omega)
    obtain ⟨x, hx⟩ := h n (by omega)
    refine ⟨l ++ [x], by simp [hl], fun i y hy => ?_⟩
    by_cases hi : i < l.length
    · rw [List.getElem?_append_left hi] at hy
      exact hp i y hy
    · rw [List.getElem?_append_right (by omega)] at hy
      have h1 : i - l.length = 0 := by
        have := (List.getElem?_eq_some_iff.1 hy).1
        simp at this; omega
      rw [h1] at hy
      simp at hy
      obtain rfl : i = n := by omega
      rw [← hy]; exact hx
theorem wf_i64 {z : Int} (h : (Lit.int .i64 z).wf = true) : -9223372036854775808 ≤ z ∧ z ≤ 9223372036854775807 := by
  have := bounds_i64 h
  omega
theorem wf_u8 {z : Int} (h : (Lit.int .u8 z).wf = true) : 0 ≤ z ∧ z ≤ 255 := by
  have := bounds_u8 h
  omega
theorem wl_slice {H : Type} {P : Program} {t e : TypeId} {el sp : List (DataW H)} (ht : P.underlying t = some (.slice e)) (h : ((DataW.slice el sp).weights P t).all (· ≤ reachBytes) = true) : el.length * P.bytesOf e ≤ reachBytes ∧ ∀ x ∈ el, (x.weights P e).all (· ≤ reachBytes) = true := by
  rw [DataW.weights, ht] at h
  simp only [List.all_cons, List.all_append, Bool.and_eq_true, decide_eq_true_eq] at h
  refine ⟨Nat.le_trans (Nat.mul_le_mul_right _ (Nat.le_add_right _ _)) h.1, ?_⟩
  have h2 := h.2.1
  clear h
  induction el with
  | nil => intro x hx; cases hx
  | cons y l ih =>
    rw [DataW.weightsAll, List.all_append, Bool.and_eq_true] at h2
    intro x hx
    rcases List.mem_cons.1 hx with rfl | hx
    · exact h2.1
    · exact ih h2.2 x hx
theorem wl_each {H : Type} {P : Program} {ts : List TypeId} {ds : List (DataW H)} (h : (DataW.weightsEach P ts ds).all (· ≤ reachBytes) = true) : ∀ (i : Nat) (t : TypeId) (d : DataW H), ts[i]? = some t → ds[i]? = some d → (d.weights P t).all (· ≤ reachBytes) = true := by
  induction ts generalizing ds with
  | nil => intro i t d ht; simp at ht
  | cons t0 ts ih =>
    cases ds with
    | nil => intro i t d _ hd; simp at hd
    | cons d0 ds =>
      rw [DataW.weightsEach, List.all_append, Bool.and_eq_true] at h
      intro i t d ht hd
      cases i with
      | zero => cases ht; cases hd; exact h.1
      | succ i => exact ih h.2 i t d (by simpa using ht) (by simpa using hd)
theorem reach_eq : reachBytes = 140737488351232 := by decide
theorem lit_string {H : Type} {P : Program} {t : TypeId} {l : List UInt8} (h : ((DataW.lit (.string l) : DataW H).weights P t).all (· ≤ reachBytes) = true) : l.length ≤ 140737488351232 := by
  rw [DataW.weights] at h
  have := reach_eq
  simp only [List.all_cons, List.all_nil, Bool.and_true, decide_eq_true_eq] at h
  omega
theorem weights_first {H : Type} {P : Program} {t : TypeId} {ts : List TypeId} {d : DataW H} {ds : List (DataW H)} (h : (DataW.weightsEach P (t :: ts) (d :: ds)).all (· ≤ reachBytes) = true) : (d.weights P t).all (· ≤ reachBytes) = true := by
  rw [DataW.weightsEach, List.all_append, Bool.and_eq_true] at h
  exact h.1
/-- Bytes in one cell, and how many. -/
theorem open_cell_data {H : Type} {enc : TypeId × Value → H} {w : World} {base fuel : Nat} {spare : Nat → Bool} {held : Bool} {v : Value} {x : DataW H × List MemPlace}
    (h : DataW.trod enc Tryd.prog w base spare held fuel 23 [v] = some x) (hw : (x.1.weights Tryd.prog 23).all (· ≤ reachBytes) = true) :
    ∃ (B : Option Addr) (l : List UInt8) (c : Nat), v = .slice B l.length c ∧ l.length ≤ 140737488351232 ∧ Rd w 0 w.heap.size B l := by
  rcases open_ints Tryd.underlying23 Tryd.underlying5 (by kernel_rfl) h with ⟨hcs, hx⟩ | ⟨a, len, cap, zs, hcs, _, hl, hm, hz, hx, hcell, hwz⟩
  · simp at hcs
    exact ⟨none, [], 0, hcs, by simp, Rd.nil _ _ _ _⟩
  · simp at hcs
    have hzl : len ≤ zs.length := by rw [hz]; split <;> omega
    have hlen : ((zs.take len).map fun z => UInt8.ofNat z.toNat).length = len := by simp; omega
    refine ⟨some a, (zs.take len).map fun z => UInt8.ofNat z.toNat, cap, by rw [hlen, hcs], ?_, ?_⟩
    · rw [hx] at hw
      have h2 := (wl_slice Tryd.underlying23 hw).1
      rw [show Tryd.prog.bytesOf 5 = 1 by kernel_rfl] at h2
      have e : (lits .u8 (zs.take len) : List (DataW H)).length = len := by simp [lits]; omega
      rw [e] at h2
      have := reach_eq
      rw [hlen]; omega
    · intro h0
      rw [hlen] at h0
      have hc0 := hcell 0 (by omega)
      rw [show a.add 0 = a by unfold Addr.add; simp] at hc0
      obtain ⟨b, o, rfl⟩ := spot_none hc0
      refine ⟨b, o, rfl, Nat.zero_le _, World.block_lt_of_cell? w _ hc0, fun i hi => ?_⟩
      rw [hlen] at hi
      have hci := hcell i (by omega)
      rw [Lib.addr_add] at hci
      rw [hci]
      have hiz : i < zs.length := by omega
      have e1 : ((zs.take len).map fun z => UInt8.ofNat z.toNat).getD i 0 = UInt8.ofNat (zs.getD i 0).toNat := by
        simp [List.getD, hi, hiz]
      rw [e1]
      have hw := hwz (zs.getD i 0) (by simp [List.getD, hiz])
      rw [u8_wf hw]
/-- Members in one cell. -/
theorem open_cell_members {H : Type} {enc : TypeId × Value → H} {w : World} {base fuel : Nat} {spare : Nat → Bool} {held : Bool} {v : Value} {x : DataW H × List MemPlace}
    (h : DataW.trod enc Tryd.prog w base spare held fuel 26 [v] = some x) (hw : (x.1.weights Tryd.prog 26).all (· ≤ reachBytes) = true) :
    ∃ (B : Option Addr) (ms : List Mem) (c : Nat), v = .slice B ms.length c ∧ ms.length ≤ 4398046510976 ∧ RdM w 0 w.heap.size B ms ∧ ∀ m ∈ ms, OkM m := by
  rcases Go.Deep.open_slice Tryd.underlying26 h with ⟨hcs, hxn⟩ | ⟨a, len, cap, m, n, Df, Pl, hcs, -, hl, hm, hmm, hx, hi⟩
  · simp at hcs
    exact ⟨none, [], 0, hcs, by simp, RdM.nil _ _ _ _, fun m hm => by cases hm⟩
  · simp at hcs
    have hlm : len ≤ m := by rw [hmm]; split <;> omega
    obtain ⟨ms, hml, hmp⟩ := list_of_at (α := Mem) len (fun i q => OkM q ∧ w.cell? (a.add (i * 4)) = some (.int .i64 q.1) ∧ w.cell? (a.add (i * 4 + 1)) = some (.int .u8 q.2.1) ∧ w.cell? (a.add (i * 4 + 2)) = some (.int .i64 q.2.2.1) ∧ w.cell? (a.add (i * 4 + 3)) = some (.int .i64 q.2.2.2)) (fun i hil => by
      obtain ⟨cs', hc, htr⟩ := hi i (by omega)
      rw [show Tryd.prog.cellsOf 106 = 4 by kernel_rfl] at hc
      obtain ⟨_, hcl, hat⟩ := World.cells?_some hc
      obtain ⟨y0, y1, y2, y3, n', -, -, h0, h1, h2, h3⟩ := trod_struct4 Tryd.underlying106 htr
      match cs', hcl with
      | [x0, x1, x2, x3], _ =>
        have h0 : DataW.trod enc Tryd.prog w base spare held n' 3 (([x0, x1, x2, x3].drop 0).take (Tryd.prog.cellsOf 3)) = some y0 := h0
        have h1 : DataW.trod enc Tryd.prog w base spare held n' 104 (([x0, x1, x2, x3].drop 1).take (Tryd.prog.cellsOf 104)) = some y1 := h1
        have h2 : DataW.trod enc Tryd.prog w base spare held n' 3 (([x0, x1, x2, x3].drop 2).take (Tryd.prog.cellsOf 3)) = some y2 := h2
        have h3 : DataW.trod enc Tryd.prog w base spare held n' 3 (([x0, x1, x2, x3].drop 3).take (Tryd.prog.cellsOf 3)) = some y3 := h3
        rw [show Tryd.prog.cellsOf 3 = 1 by kernel_rfl] at h0 h2 h3
        rw [show Tryd.prog.cellsOf 104 = 1 by kernel_rfl] at h1
        obtain ⟨q0, e0, -, w0⟩ := DataW.trod_int Tryd.underlying3 h0
        obtain ⟨q1, e1, -, w1⟩ := DataW.trod_int Tryd.underlying104 h1
        obtain ⟨q2, e2, -, w2⟩ := DataW.trod_int Tryd.underlying3 h2
        obtain ⟨q3, e3, -, w3⟩ := DataW.trod_int Tryd.underlying3 h3
        have a0 := hat 0 (by omega)
        have a1 := hat 1 (by omega)
        have a2 := hat 2 (by omega)
        have a3 := hat 3 (by omega)
        rw [Go.Deep.add_add] at a0 a1 a2 a3
        simp at e0 e1 e2 e3 a0 a1 a2 a3
        exact ⟨(q0, q1, q2, q3), ⟨wf_i64 w0, wf_u8 w1, wf_i64 w2, wf_i64 w3⟩, by rw [a0, e0], by rw [a1, e1], by rw [a2, e2], by rw [a3, e3]⟩)
    refine ⟨some a, ms, cap, by rw [hml]; exact hcs, ?_, fun h0 => ?_, fun q hq => ?_⟩
    · rw [hx] at hw
      have h2 := (wl_slice Tryd.underlying26 hw).1
      rw [show Tryd.prog.bytesOf 106 = 32 by kernel_rfl] at h2
      have := reach_eq
      simp at h2
      omega
    · obtain ⟨-, hc0, -⟩ := hmp 0 ms[0] (List.getElem?_eq_getElem h0)
      rw [show a.add (0 * 4) = a by unfold Addr.add; simp] at hc0
      obtain ⟨b, o, rfl⟩ := spot_none hc0
      refine ⟨b, o, rfl, Nat.zero_le _, World.block_lt_of_cell? w _ hc0, fun i q hq => ?_⟩
      obtain ⟨-, c0, c1, c2, c3⟩ := hmp i q hq
      rw [Lib.addr_add] at c0 c1 c2 c3
      refine ⟨c0, ?_, ?_, ?_⟩
      · rw [Nat.add_assoc]; exact c1
      · rw [Nat.add_assoc]; exact c2
      · rw [Nat.add_assoc]; exact c3
    · obtain ⟨i, hi⟩ := List.mem_iff_getElem?.1 hq
      exact (hmp i q hi).1
/-- Texts in one cell. -/
theorem open_cell_texts {H : Type} {enc : TypeId × Value → H} {w : World} {base fuel : Nat} {spare : Nat → Bool} {held : Bool} {v : Value} {x : DataW H × List MemPlace}
    (h : DataW.trod enc Tryd.prog w base spare held fuel 38 [v] = some x) (hw : (x.1.weights Tryd.prog 38).all (· ≤ reachBytes) = true) :
    ∃ (B : Option Addr) (ls : List (List UInt8)) (c : Nat), v = .slice B ls.length c ∧ ls.length ≤ 140737488351232 ∧ RdT w 0 w.heap.size B ls ∧ ∀ t ∈ ls, t.length ≤ 140737488351232 := by
  rcases Go.Deep.open_slice1 Tryd.underlying38 (by kernel_rfl) h with ⟨hcs, hxn⟩ | ⟨a, len, cap, m, n, V, Df, Pl, hcs, -, hl, hm, hmm, hx, hi⟩
  · simp at hcs
    exact ⟨none, [], 0, hcs, by simp, RdT.nil _ _ _ _, fun m hm => by cases hm⟩
  · simp at hcs
    have hlm : len ≤ m := by rw [hmm]; split <;> omega
    rw [hx] at hw
    have hww := wl_slice Tryd.underlying38 hw
    obtain ⟨ms, hml, hmp⟩ := list_of_at (α := List UInt8) len (fun i q => q.length ≤ 140737488351232 ∧ w.cell? (a.add i) = some (.string ⟨q.toArray⟩)) (fun i hil => by
      obtain ⟨hc, htr⟩ := hi i (by omega)
      obtain ⟨s, hs, hxs, -⟩ := DataW.trod_string Tryd.underlying9 htr
      simp only [List.cons.injEq, and_true] at hs
      have h3 := hww.2 (Df i) (List.mem_map.2 ⟨i, by simp; exact hil, rfl⟩)
      rw [show Df i = .lit (.string s.data.toList) from congrArg Prod.fst hxs] at h3
      exact ⟨s.data.toList, lit_string h3, by rw [hc, hs]⟩)
    refine ⟨some a, ms, cap, by rw [hml]; exact hcs, ?_, fun h0 => ?_, fun q hq => ?_⟩
    · have h2 := hww.1
      rw [show Tryd.prog.bytesOf 9 = 16 by kernel_rfl] at h2
      have := reach_eq
      simp at h2
      omega
    · obtain ⟨-, hc0⟩ := hmp 0 ms[0] (List.getElem?_eq_getElem h0)
      rw [show a.add 0 = a by unfold Addr.add; simp] at hc0
      obtain ⟨b, o, rfl⟩ := spot_none hc0
      refine ⟨b, o, rfl, Nat.zero_le _, World.block_lt_of_cell? w _ hc0, fun i q hq => ?_⟩
      obtain ⟨-, c0⟩ := hmp i q hq
      rw [Lib.addr_add] at c0
      exact c0
    · obtain ⟨i, hi⟩ := List.mem_iff_getElem?.1 hq
      exact (hmp i q hi).1

set_option maxRecDepth 8000 in
/-- A call's cells, as a value that came in lays them. -/
theorem open_afields {H : Type} {enc : TypeId × Value → H} {w : World} {base fuel : Nat} {spare : Nat → Bool} {held : Bool} {cs : List Value} {x : DataW H × List MemPlace}
    (h : DataW.trod enc Tryd.prog w base spare held fuel 29 cs = some x) (hw : (x.1.weights Tryd.prog 29).all (· ≤ reachBytes) = true) :
    ∃ (f : Fa) (pl : Pl) (np n : Nat) (y : DataW H × List MemPlace), cs = (acells f pl np).toList ∧ (f.Ok ∧ f.OkMs ∧ f.path.length ≤ 140737488351232 ∧ f.data.length ≤ 140737488351232) ∧ Rd w 0 w.heap.size pl.A f.data ∧ RdM w 0 w.heap.size pl.B f.ms ∧ DataW.trod enc Tryd.prog w base spare held n 27 [.slice pl.P np pl.e] = some y ∧ (y.1.weights Tryd.prog 27).all (· ≤ reachBytes) = true := by
  obtain ⟨xs, n, rfl, hx, hcl, hxl, hat⟩ := DataW.trod_struct Tryd.underlying29 h
  rw [show Tryd.prog.cellsOf 29 = 15 by kernel_rfl] at hcl
  have hxl : xs.length = 15 := hxl
  rw [hx, DataW.weights, Tryd.underlying29] at hw
  simp only at hw
  have hww := wl_each hw
  clear hw h hx
  match cs, hcl, xs, hxl with
  | [c0, c1, c2, c3, c4, c5, c6, c7, c8, c9, c10, c11, c12, c13, c14], _, [y0, y1, y2, y3, y4, y5, y6, y7, y8, y9, y10, y11, y12, y13, y14], _ =>
    have h0 : DataW.trod enc Tryd.prog w base spare held n 22 (([c0, c1, c2, c3, c4, c5, c6, c7, c8, c9, c10, c11, c12, c13, c14].drop 0).take (Tryd.prog.cellsOf 22)) = some y0 := hat 0 _ rfl
    rw [show Tryd.prog.cellsOf 22 = 1 by kernel_rfl] at h0
    have h0 : DataW.trod enc Tryd.prog w base spare held n 22 [c0] = some y0 := h0
    have h1 : DataW.trod enc Tryd.prog w base spare held n 3 (([c0, c1, c2, c3, c4, c5, c6, c7, c8, c9, c10, c11, c12, c13, c14].drop 1).take (Tryd.prog.cellsOf 3)) = some y1 := hat 1 _ rfl
    rw [show Tryd.prog.cellsOf 3 = 1 by kernel_rfl] at h1
    have h1 : DataW.trod enc Tryd.prog w base spare held n 3 [c1] = some y1 := h1
    have h2 : DataW.trod enc Tryd.prog w base spare held n 2 (([c0, c1, c2, c3, c4, c5, c6, c7, c8, c9, c10, c11, c12, c13, c14].drop 2).take (Tryd.prog.cellsOf 2)) = some y2 := hat 2 _ rfl
    rw [show Tryd.prog.cellsOf 2 = 1 by kernel_rfl] at h2
    have h2 : DataW.trod enc Tryd.prog w base spare held n 2 [c2] = some y2 := h2
    have h3 : DataW.trod enc Tryd.prog w base spare held n 3 (([c0, c1, c2, c3, c4, c5, c6, c7, c8, c9, c10, c11, c12, c13, c14].drop 3).take (Tryd.prog.cellsOf 3)) = some y3 := hat 3 _ rfl
    rw [show Tryd.prog.cellsOf 3 = 1 by kernel_rfl] at h3
    have h3 : DataW.trod enc Tryd.prog w base spare held n 3 [c3] = some y3 := h3
    have h4 : DataW.trod enc Tryd.prog w base spare held n 9 (([c0, c1, c2, c3, c4, c5, c6, c7, c8, c9, c10, c11, c12, c13, c14].drop 4).take (Tryd.prog.cellsOf 9)) = some y4 := hat 4 _ rfl
    rw [show Tryd.prog.cellsOf 9 = 1 by kernel_rfl] at h4
    have h4 : DataW.trod enc Tryd.prog w base spare held n 9 [c4] = some y4 := h4
    have h5 : DataW.trod enc Tryd.prog w base spare held n 23 (([c0, c1, c2, c3, c4, c5, c6, c7, c8, c9, c10, c11, c12, c13, c14].drop 5).take (Tryd.prog.cellsOf 23)) = some y5 := hat 5 _ rfl
    rw [show Tryd.prog.cellsOf 23 = 1 by kernel_rfl] at h5
    have h5 : DataW.trod enc Tryd.prog w base spare held n 23 [c5] = some y5 := h5
    have h6 : DataW.trod enc Tryd.prog w base spare held n 3 (([c0, c1, c2, c3, c4, c5, c6, c7, c8, c9, c10, c11, c12, c13, c14].drop 6).take (Tryd.prog.cellsOf 3)) = some y6 := hat 6 _ rfl
    rw [show Tryd.prog.cellsOf 3 = 1 by kernel_rfl] at h6
    have h6 : DataW.trod enc Tryd.prog w base spare held n 3 [c6] = some y6 := h6
    have h7 : DataW.trod enc Tryd.prog w base spare held n 3 (([c0, c1, c2, c3, c4, c5, c6, c7, c8, c9, c10, c11, c12, c13, c14].drop 7).take (Tryd.prog.cellsOf 3)) = some y7 := hat 7 _ rfl
    rw [show Tryd.prog.cellsOf 3 = 1 by kernel_rfl] at h7
    have h7 : DataW.trod enc Tryd.prog w base spare held n 3 [c7] = some y7 := h7
    have h8 : DataW.trod enc Tryd.prog w base spare held n 4 (([c0, c1, c2, c3, c4, c5, c6, c7, c8, c9, c10, c11, c12, c13, c14].drop 8).take (Tryd.prog.cellsOf 4)) = some y8 := hat 8 _ rfl
    rw [show Tryd.prog.cellsOf 4 = 1 by kernel_rfl] at h8
    have h8 : DataW.trod enc Tryd.prog w base spare held n 4 [c8] = some y8 := h8
    have h9 : DataW.trod enc Tryd.prog w base spare held n 24 (([c0, c1, c2, c3, c4, c5, c6, c7, c8, c9, c10, c11, c12, c13, c14].drop 9).take (Tryd.prog.cellsOf 24)) = some y9 := hat 9 _ rfl
    rw [show Tryd.prog.cellsOf 24 = 1 by kernel_rfl] at h9
    have h9 : DataW.trod enc Tryd.prog w base spare held n 24 [c9] = some y9 := h9
    have h10 : DataW.trod enc Tryd.prog w base spare held n 25 (([c0, c1, c2, c3, c4, c5, c6, c7, c8, c9, c10, c11, c12, c13, c14].drop 10).take (Tryd.prog.cellsOf 25)) = some y10 := hat 10 _ rfl
    rw [show Tryd.prog.cellsOf 25 = 1 by kernel_rfl] at h10
    have h10 : DataW.trod enc Tryd.prog w base spare held n 25 [c10] = some y10 := h10
    have h11 : DataW.trod enc Tryd.prog w base spare held n 3 (([c0, c1, c2, c3, c4, c5, c6, c7, c8, c9, c10, c11, c12, c13, c14].drop 11).take (Tryd.prog.cellsOf 3)) = some y11 := hat 11 _ rfl
    rw [show Tryd.prog.cellsOf 3 = 1 by kernel_rfl] at h11
    have h11 : DataW.trod enc Tryd.prog w base spare held n 3 [c11] = some y11 := h11
    have h12 : DataW.trod enc Tryd.prog w base spare held n 25 (([c0, c1, c2, c3, c4, c5, c6, c7, c8, c9, c10, c11, c12, c13, c14].drop 12).take (Tryd.prog.cellsOf 25)) = some y12 := hat 12 _ rfl
    rw [show Tryd.prog.cellsOf 25 = 1 by kernel_rfl] at h12
    have h12 : DataW.trod enc Tryd.prog w base spare held n 25 [c12] = some y12 := h12
    have h13 : DataW.trod enc Tryd.prog w base spare held n 26 (([c0, c1, c2, c3, c4, c5, c6, c7, c8, c9, c10, c11, c12, c13, c14].drop 13).take (Tryd.prog.cellsOf 26)) = some y13 := hat 13 _ rfl
    rw [show Tryd.prog.cellsOf 26 = 1 by kernel_rfl] at h13
    have h13 : DataW.trod enc Tryd.prog w base spare held n 26 [c13] = some y13 := h13
    have h14 : DataW.trod enc Tryd.prog w base spare held n 27 (([c0, c1, c2, c3, c4, c5, c6, c7, c8, c9, c10, c11, c12, c13, c14].drop 14).take (Tryd.prog.cellsOf 27)) = some y14 := hat 14 _ rfl
    rw [show Tryd.prog.cellsOf 27 = 1 by kernel_rfl] at h14
    have h14 : DataW.trod enc Tryd.prog w base spare held n 27 [c14] = some y14 := h14
    clear hat
    obtain ⟨z0, q0, -, w0⟩ := DataW.trod_int Tryd.underlying22 h0
    simp only [List.cons.injEq, and_true] at q0
    obtain ⟨z1, q1, -, w1⟩ := DataW.trod_int Tryd.underlying3 h1
    simp only [List.cons.injEq, and_true] at q1
    obtain ⟨z2, q2, -, w2⟩ := DataW.trod_int Tryd.underlying2 h2
    simp only [List.cons.injEq, and_true] at q2
    obtain ⟨z3, q3, -, w3⟩ := DataW.trod_int Tryd.underlying3 h3
    simp only [List.cons.injEq, and_true] at q3
    obtain ⟨z6, q6, -, w6⟩ := DataW.trod_int Tryd.underlying3 h6
    simp only [List.cons.injEq, and_true] at q6
    obtain ⟨z7, q7, -, w7⟩ := DataW.trod_int Tryd.underlying3 h7
    simp only [List.cons.injEq, and_true] at q7
    obtain ⟨z9, q9, -, w9⟩ := DataW.trod_int Tryd.underlying24 h9
    simp only [List.cons.injEq, and_true] at q9
    obtain ⟨z10, q10, -, w10⟩ := DataW.trod_int Tryd.underlying25 h10
    simp only [List.cons.injEq, and_true] at q10
    obtain ⟨z11, q11, -, w11⟩ := DataW.trod_int Tryd.underlying3 h11
    simp only [List.cons.injEq, and_true] at q11
    obtain ⟨z12, q12, -, w12⟩ := DataW.trod_int Tryd.underlying25 h12
    simp only [List.cons.injEq, and_true] at q12
    obtain ⟨b8, q8, -⟩ := DataW.trod_bool Tryd.underlying4 h8
    simp only [List.cons.injEq, and_true] at q8
    obtain ⟨S, q4, x4, -⟩ := DataW.trod_string Tryd.underlying9 h4
    simp only [List.cons.injEq, and_true] at q4
    have s4 := hww 4 9 y4.1 rfl rfl
    rw [x4] at s4
    have s4 := lit_string s4
    obtain ⟨PA, data, pc, q5, l5, r5⟩ := open_cell_data h5 (hww 5 23 y5.1 rfl rfl)
    obtain ⟨PB, ms, pd, q13, l13, r13, m13⟩ := open_cell_members h13 (hww 13 26 y13.1 rfl rfl)
    have h15 : ∃ (PP : Option Addr) (np pe : Nat), c14 = .slice PP np pe := by
      rcases DataW.trod_slice Tryd.underlying27 h14 with ⟨hcs, -⟩ | ⟨a, len, cap, el, rest, n2, -, hcs, -⟩
      · simp only [List.cons.injEq, and_true] at hcs; exact ⟨_, _, _, hcs⟩
      · simp only [List.cons.injEq, and_true] at hcs; exact ⟨_, _, _, hcs⟩
    obtain ⟨PP, np, pe, rfl⟩ := h15
    refine ⟨⟨z0, z1, z2, z3, S.data.toList, data, z6, z7, b8, z9, z10, z11, z12, ms⟩, ⟨PA, pc, PB, pd, PP, pe⟩, np, n, y14, ?_, ⟨?_, m13, s4, l5⟩, r5, r13, h14, hww 14 27 y14.1 rfl rfl⟩
    · rw [q0, q1, q2, q3, q4, q5, q6, q7, q8, q9, q10, q11, q12, q13]
      simp [acells]
    · exact ⟨wf_u8 w0, wf_i64 w1, wf_i64 w2, wf_i64 w3, wf_i64 w6, wf_i64 w7, wf_u8 w9, wf_i64 w10, wf_i64 w11, wf_i64 w12, by simp only; omega, by simp only; omega, l13⟩
theorem anp_bound {H : Type} {enc : TypeId × Value → H} {w : World} {base fuel : Nat} {spare : Nat → Bool} {held : Bool} {A : Option Addr} {np e : Nat} {x : DataW H × List MemPlace}
    (h : DataW.trod enc Tryd.prog w base spare held fuel 27 [.slice A np e] = some x) (hw : (x.1.weights Tryd.prog 27).all (· ≤ reachBytes) = true) : np ≤ 1099511627776 := by
  rcases DataW.trod_slice Tryd.underlying27 h with ⟨hcs, -⟩ | ⟨a, len, cap, el, rest, n, -, hcs, hx, -, -, -, hel, -⟩
  · simp at hcs; omega
  · simp at hcs
    rw [hx] at hw
    have h2 := (wl_slice Tryd.underlying27 hw).1
    rw [show Tryd.prog.bytesOf 29 = 168 by kernel_rfl] at h2
    have := reach_eq
    simp at h2
    omega
/-- Parts that came in. -/
theorem open_aparts {H : Type} {enc : TypeId × Value → H} {w : World} {base fuel : Nat} {spare : Nat → Bool} {held : Bool} {A : Option Addr} {np e : Nat} {x : DataW H × List MemPlace}
    (h : DataW.trod enc Tryd.prog w base spare held fuel 27 [.slice A np e] = some x) (hw : (x.1.weights Tryd.prog 27).all (· ≤ reachBytes) = true) :
    ∃ l : List (Fa × Nat), l.length = np ∧ RdPa w 0 w.heap.size A l ∧ ∀ q ∈ l, (q.1.Ok ∧ q.1.OkMs ∧ q.1.path.length ≤ 140737488351232 ∧ q.1.data.length ≤ 140737488351232) ∧ q.2 ≤ 1099511627776 := by
  rcases Go.Deep.open_slice Tryd.underlying27 h with ⟨hcs, -⟩ | ⟨a, len, cap, m, n, Df, Pl2, hcs, -, hlc, -, hmm, hx, hi⟩
  · simp at hcs
    obtain ⟨rfl, rfl, -⟩ := hcs
    exact ⟨[], rfl, RdPa.nil _ _ _ _, fun q hq => absurd hq (by simp)⟩
  · simp at hcs
    obtain ⟨rfl, rfl, rfl⟩ := hcs
    have hlm : np ≤ m := by rw [hmm]; split <;> omega
    rw [hx] at hw
    have hww := (wl_slice Tryd.underlying27 hw).2
    obtain ⟨l, hll, hlp⟩ := list_of_at (α := Fa × Nat) np (fun i q => ((q.1.Ok ∧ q.1.OkMs ∧ q.1.path.length ≤ 140737488351232 ∧ q.1.data.length ≤ 140737488351232) ∧ q.2 ≤ 1099511627776) ∧ ∃ pl : Pl, (∀ j v, (acells q.1 pl q.2)[j]? = some v → w.cell? (a.add (i * 15 + j)) = some v) ∧ Rd w 0 w.heap.size pl.A q.1.data ∧ RdM w 0 w.heap.size pl.B q.1.ms) (fun i hil => by
      obtain ⟨cs', hc, htr⟩ := hi i (by omega)
      rw [show Tryd.prog.cellsOf 29 = 15 by kernel_rfl] at hc
      obtain ⟨_, hcl, hat⟩ := World.cells?_some hc
      obtain ⟨f, pl, k, n2, y, rfl, hok, hrd, hrm, htp, hwp⟩ := open_afields htr (hww (Df i) (List.mem_map.2 ⟨i, by simp; exact hil, rfl⟩))
      refine ⟨(f, k), ⟨hok, anp_bound htp hwp⟩, pl, fun j v hv => ?_, hrd, hrm⟩
      have hj : j < 15 := by
        have := (Array.getElem?_eq_some_iff.1 hv).1
        simpa [acells] using this
      have h2 := hat j (by omega)
      rw [Go.Deep.add_add] at h2
      rw [h2]
      simpa using hv)
    refine ⟨l, hll, fun h0 => ?_, fun q hq => ?_⟩
    · obtain ⟨-, pl, hc, -⟩ := hlp 0 l[0] (List.getElem?_eq_getElem h0)
      have hc0 := hc 0 _ rfl
      rw [show a.add (0 * 15 + 0) = a by unfold Addr.add; simp] at hc0
      obtain ⟨b, o, rfl⟩ := spot_none hc0
      refine ⟨b, o, rfl, Nat.zero_le _, World.block_lt_of_cell? w _ hc0, fun i q hq => ?_⟩
      obtain ⟨-, pl, hc, hrd, hrm⟩ := hlp i q hq
      refine ⟨pl, fun j v hv => ?_, hrd, hrm⟩
      have h2 := hc j v hv
      rw [Lib.addr_add] at h2
      rw [Nat.add_assoc]
      exact h2
    · obtain ⟨i, hi⟩ := List.mem_iff_getElem?.1 hq
      exact (hlp i q hi).1
set_option maxRecDepth 8000 in
/-- A call that came in. -/
theorem open_ask {H : Type} {enc : TypeId × Value → H} {w : World} {base : Nat} {r : Reach} {b0 : Nat} {spare : Nat → Bool} {held : Bool} {v : Value} {d : DataW H} {p : List MemPlace}
    (hv : Value.okWide Tryd.prog w r b0 29 v) (h : DataW.Trod enc Tryd.prog w base spare held 29 v d p) (hw : (d.weights Tryd.prog 29).all (· ≤ reachBytes) = true) :
    ∃ (f : Fa) (pl : Pl) (l : List (Fa × Nat)), v = aval f pl l.length ∧ (f.Ok ∧ f.OkMs ∧ f.path.length ≤ 140737488351232 ∧ f.data.length ≤ 140737488351232) ∧ l.length ≤ 1099511627776 ∧ RdA w 0 w.heap.size f pl l ∧ ∀ q ∈ l, (q.1.Ok ∧ q.1.OkMs ∧ q.1.path.length ≤ 140737488351232 ∧ q.1.data.length ≤ 140737488351232) ∧ q.2 ≤ 1099511627776 := by
  obtain ⟨cs, rfl, hsz⟩ := okWide_struct Tryd.underlying29 hv
  obtain ⟨fuel, hf⟩ := h
  have hf2 : DataW.trod enc Tryd.prog w base spare held fuel 29 cs.toList = some (d, p) := by simpa [Value.cells] using hf
  obtain ⟨f, pl, np, n, y, hcs, hok, hrd, hrm, htp, hwp⟩ := open_afields hf2 hw
  obtain ⟨l, hl, hrp, hlo⟩ := open_aparts htp hwp
  have hnb := anp_bound htp hwp
  refine ⟨f, pl, l, ?_, hok, by omega, ⟨hrd, hrm, hrp⟩, hlo⟩
  rw [hl, aval]
  congr 1
  exact Array.toList_inj.1 hcs

set_option maxRecDepth 8000 in
/-- A stat's cells. -/
theorem open_stat {H : Type} {enc : TypeId × Value → H} {w : World} {base fuel : Nat} {spare : Nat → Bool} {held : Bool} {cs : List Value} {x : DataW H × List MemPlace}
    (h : DataW.trod enc Tryd.prog w base spare held fuel 37 cs = some x) :
    ∃ st : List Int, st.length = 10 ∧ (∀ n ∈ st, OkI n) ∧ cs = (st.map fun n => .int .i64 n) := by
  obtain ⟨xs, n, rfl, hx, hcl, hxl, hat⟩ := DataW.trod_struct Tryd.underlying37 h
  rw [show Tryd.prog.cellsOf 37 = 10 by kernel_rfl] at hcl
  have hxl : xs.length = 10 := hxl
  clear h hx
  match cs, hcl, xs, hxl with
  | [c0, c1, c2, c3, c4, c5, c6, c7, c8, c9], _, [y0, y1, y2, y3, y4, y5, y6, y7, y8, y9], _ =>
    have h0 : DataW.trod enc Tryd.prog w base spare held n 25 (([c0, c1, c2, c3, c4, c5, c6, c7, c8, c9].drop 0).take (Tryd.prog.cellsOf 25)) = some y0 := hat 0 _ rfl
    rw [show Tryd.prog.cellsOf 25 = 1 by kernel_rfl] at h0
    have h0 : DataW.trod enc Tryd.prog w base spare held n 25 [c0] = some y0 := h0
    have h1 : DataW.trod enc Tryd.prog w base spare held n 25 (([c0, c1, c2, c3, c4, c5, c6, c7, c8, c9].drop 1).take (Tryd.prog.cellsOf 25)) = some y1 := hat 1 _ rfl
    rw [show Tryd.prog.cellsOf 25 = 1 by kernel_rfl] at h1
    have h1 : DataW.trod enc Tryd.prog w base spare held n 25 [c1] = some y1 := h1
    have h2 : DataW.trod enc Tryd.prog w base spare held n 25 (([c0, c1, c2, c3, c4, c5, c6, c7, c8, c9].drop 2).take (Tryd.prog.cellsOf 25)) = some y2 := hat 2 _ rfl
    rw [show Tryd.prog.cellsOf 25 = 1 by kernel_rfl] at h2
    have h2 : DataW.trod enc Tryd.prog w base spare held n 25 [c2] = some y2 := h2
    have h3 : DataW.trod enc Tryd.prog w base spare held n 2 (([c0, c1, c2, c3, c4, c5, c6, c7, c8, c9].drop 3).take (Tryd.prog.cellsOf 2)) = some y3 := hat 3 _ rfl
    rw [show Tryd.prog.cellsOf 2 = 1 by kernel_rfl] at h3
    have h3 : DataW.trod enc Tryd.prog w base spare held n 2 [c3] = some y3 := h3
    have h4 : DataW.trod enc Tryd.prog w base spare held n 2 (([c0, c1, c2, c3, c4, c5, c6, c7, c8, c9].drop 4).take (Tryd.prog.cellsOf 2)) = some y4 := hat 4 _ rfl
    rw [show Tryd.prog.cellsOf 2 = 1 by kernel_rfl] at h4
    have h4 : DataW.trod enc Tryd.prog w base spare held n 2 [c4] = some y4 := h4
    have h5 : DataW.trod enc Tryd.prog w base spare held n 3 (([c0, c1, c2, c3, c4, c5, c6, c7, c8, c9].drop 5).take (Tryd.prog.cellsOf 3)) = some y5 := hat 5 _ rfl
    rw [show Tryd.prog.cellsOf 3 = 1 by kernel_rfl] at h5
    have h5 : DataW.trod enc Tryd.prog w base spare held n 3 [c5] = some y5 := h5
    have h6 : DataW.trod enc Tryd.prog w base spare held n 3 (([c0, c1, c2, c3, c4, c5, c6, c7, c8, c9].drop 6).take (Tryd.prog.cellsOf 3)) = some y6 := hat 6 _ rfl
    rw [show Tryd.prog.cellsOf 3 = 1 by kernel_rfl] at h6
    have h6 : DataW.trod enc Tryd.prog w base spare held n 3 [c6] = some y6 := h6
    have h7 : DataW.trod enc Tryd.prog w base spare held n 2 (([c0, c1, c2, c3, c4, c5, c6, c7, c8, c9].drop 7).take (Tryd.prog.cellsOf 2)) = some y7 := hat 7 _ rfl
    rw [show Tryd.prog.cellsOf 2 = 1 by kernel_rfl] at h7
    have h7 : DataW.trod enc Tryd.prog w base spare held n 2 [c7] = some y7 := h7
    have h8 : DataW.trod enc Tryd.prog w base spare held n 3 (([c0, c1, c2, c3, c4, c5, c6, c7, c8, c9].drop 8).take (Tryd.prog.cellsOf 3)) = some y8 := hat 8 _ rfl
    rw [show Tryd.prog.cellsOf 3 = 1 by kernel_rfl] at h8
    have h8 : DataW.trod enc Tryd.prog w base spare held n 3 [c8] = some y8 := h8
    have h9 : DataW.trod enc Tryd.prog w base spare held n 3 (([c0, c1, c2, c3, c4, c5, c6, c7, c8, c9].drop 9).take (Tryd.prog.cellsOf 3)) = some y9 := hat 9 _ rfl
    rw [show Tryd.prog.cellsOf 3 = 1 by kernel_rfl] at h9
    have h9 : DataW.trod enc Tryd.prog w base spare held n 3 [c9] = some y9 := h9
    clear hat
    obtain ⟨z0, q0, -, w0⟩ := DataW.trod_int Tryd.underlying25 h0
    simp only [List.cons.injEq, and_true] at q0
    obtain ⟨z1, q1, -, w1⟩ := DataW.trod_int Tryd.underlying25 h1
    simp only [List.cons.injEq, and_true] at q1
    obtain ⟨z2, q2, -, w2⟩ := DataW.trod_int Tryd.underlying25 h2
    simp only [List.cons.injEq, and_true] at q2
    obtain ⟨z3, q3, -, w3⟩ := DataW.trod_int Tryd.underlying2 h3
    simp only [List.cons.injEq, and_true] at q3
    obtain ⟨z4, q4, -, w4⟩ := DataW.trod_int Tryd.underlying2 h4
    simp only [List.cons.injEq, and_true] at q4
    obtain ⟨z5, q5, -, w5⟩ := DataW.trod_int Tryd.underlying3 h5
    simp only [List.cons.injEq, and_true] at q5
    obtain ⟨z6, q6, -, w6⟩ := DataW.trod_int Tryd.underlying3 h6
    simp only [List.cons.injEq, and_true] at q6
    obtain ⟨z7, q7, -, w7⟩ := DataW.trod_int Tryd.underlying2 h7
    simp only [List.cons.injEq, and_true] at q7
    obtain ⟨z8, q8, -, w8⟩ := DataW.trod_int Tryd.underlying3 h8
    simp only [List.cons.injEq, and_true] at q8
    obtain ⟨z9, q9, -, w9⟩ := DataW.trod_int Tryd.underlying3 h9
    simp only [List.cons.injEq, and_true] at q9
    refine ⟨[z0, z1, z2, z3, z4, z5, z6, z7, z8, z9], rfl, fun m hm => ?_, ?_⟩
    · simp only [List.mem_cons, List.not_mem_nil, or_false] at hm
      rcases hm with rfl | rfl | rfl | rfl | rfl | rfl | rfl | rfl | rfl | rfl
      · exact wf_i64 w0
      · exact wf_i64 w1
      · exact wf_i64 w2
      · exact wf_i64 w3
      · exact wf_i64 w4
      · exact wf_i64 w5
      · exact wf_i64 w6
      · exact wf_i64 w7
      · exact wf_i64 w8
      · exact wf_i64 w9
    · rw [q0, q1, q2, q3, q4, q5, q6, q7, q8, q9]
      rfl
set_option maxRecDepth 8000 in
/-- A reply's cells, as a value that came in lays them. -/
theorem open_yfields {H : Type} {enc : TypeId × Value → H} {w : World} {base fuel : Nat} {spare : Nat → Bool} {held : Bool} {cs : List Value} {x : DataW H × List MemPlace}
    (h : DataW.trod enc Tryd.prog w base spare held fuel 43 cs = some x) (hw : (x.1.weights Tryd.prog 43).all (· ≤ reachBytes) = true) :
    ∃ (f : Fy) (pl : Py) (np n : Nat) (y : DataW H × List MemPlace), cs = (ycells f pl np).toList ∧ (f.Ok ∧ (∀ t ∈ f.ls, t.length ≤ 140737488351232) ∧ f.path.length ≤ 140737488351232 ∧ f.data.length ≤ 140737488351232 ∧ f.ls.length ≤ 140737488351232 ∧ ∀ m ∈ f.c.2, OkM m) ∧ Rd w 0 w.heap.size pl.A f.data ∧ RdT w 0 w.heap.size pl.L f.ls ∧ RdM w 0 w.heap.size pl.B f.c.2 ∧ DataW.trod enc Tryd.prog w base spare held n 41 [.slice pl.P np pl.e] = some y ∧ (y.1.weights Tryd.prog 41).all (· ≤ reachBytes) = true := by
  obtain ⟨xs, n, rfl, hx, hcl, hxl, hat⟩ := DataW.trod_struct Tryd.underlying43 h
  rw [show Tryd.prog.cellsOf 43 = 22 by kernel_rfl] at hcl
  have hxl : xs.length = 12 := hxl
  rw [hx, DataW.weights, Tryd.underlying43] at hw
  simp only at hw
  have hww := wl_each hw
  clear hw h hx
  match cs, hcl, xs, hxl with
  | [c0, c1, c2, c3, c4, c5, c6, c7, c8, c9, c10, c11, c12, c13, c14, c15, c16, c17, c18, c19, c20, c21], _, [y0, y1, y2, y3, y4, y5, y6, y7, y8, y9, y10, y11], _ =>
    have h0 : DataW.trod enc Tryd.prog w base spare held n 22 (([c0, c1, c2, c3, c4, c5, c6, c7, c8, c9, c10, c11, c12, c13, c14, c15, c16, c17, c18, c19, c20, c21].drop 0).take (Tryd.prog.cellsOf 22)) = some y0 := hat 0 _ rfl
    rw [show Tryd.prog.cellsOf 22 = 1 by kernel_rfl] at h0
    have h0 : DataW.trod enc Tryd.prog w base spare held n 22 [c0] = some y0 := h0
    have h1 : DataW.trod enc Tryd.prog w base spare held n 3 (([c0, c1, c2, c3, c4, c5, c6, c7, c8, c9, c10, c11, c12, c13, c14, c15, c16, c17, c18, c19, c20, c21].drop 1).take (Tryd.prog.cellsOf 3)) = some y1 := hat 1 _ rfl
    rw [show Tryd.prog.cellsOf 3 = 1 by kernel_rfl] at h1
    have h1 : DataW.trod enc Tryd.prog w base spare held n 3 [c1] = some y1 := h1
    have h2 : DataW.trod enc Tryd.prog w base spare held n 25 (([c0, c1, c2, c3, c4, c5, c6, c7, c8, c9, c10, c11, c12, c13, c14, c15, c16, c17, c18, c19, c20, c21].drop 2).take (Tryd.prog.cellsOf 25)) = some y2 := hat 2 _ rfl
    rw [show Tryd.prog.cellsOf 25 = 1 by kernel_rfl] at h2
    have h2 : DataW.trod enc Tryd.prog w base spare held n 25 [c2] = some y2 := h2
    have h3 : DataW.trod enc Tryd.prog w base spare held n 32 (([c0, c1, c2, c3, c4, c5, c6, c7, c8, c9, c10, c11, c12, c13, c14, c15, c16, c17, c18, c19, c20, c21].drop 3).take (Tryd.prog.cellsOf 32)) = some y3 := hat 3 _ rfl
    rw [show Tryd.prog.cellsOf 32 = 1 by kernel_rfl] at h3
    have h3 : DataW.trod enc Tryd.prog w base spare held n 32 [c3] = some y3 := h3
    have h4 : DataW.trod enc Tryd.prog w base spare held n 2 (([c0, c1, c2, c3, c4, c5, c6, c7, c8, c9, c10, c11, c12, c13, c14, c15, c16, c17, c18, c19, c20, c21].drop 4).take (Tryd.prog.cellsOf 2)) = some y4 := hat 4 _ rfl
    rw [show Tryd.prog.cellsOf 2 = 1 by kernel_rfl] at h4
    have h4 : DataW.trod enc Tryd.prog w base spare held n 2 [c4] = some y4 := h4
    have h5 : DataW.trod enc Tryd.prog w base spare held n 3 (([c0, c1, c2, c3, c4, c5, c6, c7, c8, c9, c10, c11, c12, c13, c14, c15, c16, c17, c18, c19, c20, c21].drop 5).take (Tryd.prog.cellsOf 3)) = some y5 := hat 5 _ rfl
    rw [show Tryd.prog.cellsOf 3 = 1 by kernel_rfl] at h5
    have h5 : DataW.trod enc Tryd.prog w base spare held n 3 [c5] = some y5 := h5
    have h6 : DataW.trod enc Tryd.prog w base spare held n 9 (([c0, c1, c2, c3, c4, c5, c6, c7, c8, c9, c10, c11, c12, c13, c14, c15, c16, c17, c18, c19, c20, c21].drop 6).take (Tryd.prog.cellsOf 9)) = some y6 := hat 6 _ rfl
    rw [show Tryd.prog.cellsOf 9 = 1 by kernel_rfl] at h6
    have h6 : DataW.trod enc Tryd.prog w base spare held n 9 [c6] = some y6 := h6
    have h7 : DataW.trod enc Tryd.prog w base spare held n 23 (([c0, c1, c2, c3, c4, c5, c6, c7, c8, c9, c10, c11, c12, c13, c14, c15, c16, c17, c18, c19, c20, c21].drop 7).take (Tryd.prog.cellsOf 23)) = some y7 := hat 7 _ rfl
    rw [show Tryd.prog.cellsOf 23 = 1 by kernel_rfl] at h7
    have h7 : DataW.trod enc Tryd.prog w base spare held n 23 [c7] = some y7 := h7
    have h8 : DataW.trod enc Tryd.prog w base spare held n 37 (([c0, c1, c2, c3, c4, c5, c6, c7, c8, c9, c10, c11, c12, c13, c14, c15, c16, c17, c18, c19, c20, c21].drop 8).take (Tryd.prog.cellsOf 37)) = some y8 := hat 8 _ rfl
    rw [show Tryd.prog.cellsOf 37 = 10 by kernel_rfl] at h8
    have h8 : DataW.trod enc Tryd.prog w base spare held n 37 [c8, c9, c10, c11, c12, c13, c14, c15, c16, c17] = some y8 := h8
    have h9 : DataW.trod enc Tryd.prog w base spare held n 38 (([c0, c1, c2, c3, c4, c5, c6, c7, c8, c9, c10, c11, c12, c13, c14, c15, c16, c17, c18, c19, c20, c21].drop 18).take (Tryd.prog.cellsOf 38)) = some y9 := hat 9 _ rfl
    rw [show Tryd.prog.cellsOf 38 = 1 by kernel_rfl] at h9
    have h9 : DataW.trod enc Tryd.prog w base spare held n 38 [c18] = some y9 := h9
    have h10 : DataW.trod enc Tryd.prog w base spare held n 40 (([c0, c1, c2, c3, c4, c5, c6, c7, c8, c9, c10, c11, c12, c13, c14, c15, c16, c17, c18, c19, c20, c21].drop 19).take (Tryd.prog.cellsOf 40)) = some y10 := hat 10 _ rfl
    rw [show Tryd.prog.cellsOf 40 = 2 by kernel_rfl] at h10
    have h10 : DataW.trod enc Tryd.prog w base spare held n 40 [c19, c20] = some y10 := h10
    have h11 : DataW.trod enc Tryd.prog w base spare held n 41 (([c0, c1, c2, c3, c4, c5, c6, c7, c8, c9, c10, c11, c12, c13, c14, c15, c16, c17, c18, c19, c20, c21].drop 21).take (Tryd.prog.cellsOf 41)) = some y11 := hat 11 _ rfl
    rw [show Tryd.prog.cellsOf 41 = 1 by kernel_rfl] at h11
    have h11 : DataW.trod enc Tryd.prog w base spare held n 41 [c21] = some y11 := h11
    clear hat
    obtain ⟨z0, q0, -, w0⟩ := DataW.trod_int Tryd.underlying22 h0
    simp only [List.cons.injEq, and_true] at q0
    obtain ⟨z1, q1, -, w1⟩ := DataW.trod_int Tryd.underlying3 h1
    simp only [List.cons.injEq, and_true] at q1
    obtain ⟨z2, q2, -, w2⟩ := DataW.trod_int Tryd.underlying25 h2
    simp only [List.cons.injEq, and_true] at q2
    obtain ⟨z3, q3, -, w3⟩ := DataW.trod_int Tryd.underlying32 h3
    simp only [List.cons.injEq, and_true] at q3
    obtain ⟨z4, q4, -, w4⟩ := DataW.trod_int Tryd.underlying2 h4
    simp only [List.cons.injEq, and_true] at q4
    obtain ⟨z5, q5, -, w5⟩ := DataW.trod_int Tryd.underlying3 h5
    simp only [List.cons.injEq, and_true] at q5
    obtain ⟨S, q6, x6, -⟩ := DataW.trod_string Tryd.underlying9 h6
    simp only [List.cons.injEq, and_true] at q6
    have s6 := hww 6 9 y6.1 rfl rfl
    rw [x6] at s6
    have s6 := lit_string s6
    obtain ⟨PA, data, pc, q7, l7, r7⟩ := open_cell_data h7 (hww 7 23 y7.1 rfl rfl)
    obtain ⟨st, sl, so, q8⟩ := open_stat h8
    obtain ⟨PL, ls, pn, q9, l9, r9, m9⟩ := open_cell_texts h9 (hww 9 38 y9.1 rfl rfl)
    have s10 := hww 10 40 y10.1 rfl rfl
    obtain ⟨v0, v1, n', hx10, -, g0, g1⟩ := trod_struct2 Tryd.underlying40 h10
    have g0 : DataW.trod enc Tryd.prog w base spare held n' 25 (([c19, c20].drop 0).take (Tryd.prog.cellsOf 25)) = some v0 := g0
    have g1 : DataW.trod enc Tryd.prog w base spare held n' 26 (([c19, c20].drop 1).take (Tryd.prog.cellsOf 26)) = some v1 := g1
    rw [show Tryd.prog.cellsOf 25 = 1 by kernel_rfl] at g0
    rw [show Tryd.prog.cellsOf 26 = 1 by kernel_rfl] at g1
    have g0 : DataW.trod enc Tryd.prog w base spare held n' 25 [c19] = some v0 := g0
    have g1 : DataW.trod enc Tryd.prog w base spare held n' 26 [c20] = some v1 := g1
    obtain ⟨z10, q10, -, w10⟩ := DataW.trod_int Tryd.underlying25 g0
    simp only [List.cons.injEq, and_true] at q10
    rw [hx10, DataW.weights, Tryd.underlying40] at s10
    obtain ⟨PB, ms, pd, q11, l11, r11, m11⟩ := open_cell_members g1 (wl_each s10 1 26 v1.1 rfl rfl)
    have h15 : ∃ (PP : Option Addr) (np pe : Nat), c21 = .slice PP np pe := by
      rcases DataW.trod_slice Tryd.underlying41 h11 with ⟨hcs, -⟩ | ⟨a, len, cap, el, rest, n2, -, hcs, -⟩
      · simp only [List.cons.injEq, and_true] at hcs; exact ⟨_, _, _, hcs⟩
      · simp only [List.cons.injEq, and_true] at hcs; exact ⟨_, _, _, hcs⟩
    obtain ⟨PP, np, pe, rfl⟩ := h15
    match st, sl with
    | [t0, t1, t2, t3, t4, t5, t6, t7, t8, t9], _ =>
      simp only [List.map_cons, List.map_nil, List.cons.injEq, and_true] at q8
      obtain ⟨e0, e1, e2, e3, e4, e5, e6, e7, e8, e9⟩ := q8
      refine ⟨⟨z0, [z1, z2, z3, z4, z5], S.data.toList, data, [t0, t1, t2, t3, t4, t5, t6, t7, t8, t9], ls, (z10, ms)⟩, ⟨PA, pc, PL, pn, PB, pd, PP, pe⟩, np, n, y11, ?_, ⟨?_, m9, s6, l7, l9, m11⟩, r7, r9, r11, h11, hww 11 41 y11.1 rfl rfl⟩
      · rw [q0, q1, q2, q3, q4, q5, q6, q7, e0, e1, e2, e3, e4, e5, e6, e7, e8, e9, q9, q10, q11]
        simp [ycells]
      · refine ⟨wf_u8 w0, fun m hm => ?_, rfl, so, rfl, wf_i64 w10, by simp only; omega, by simp only; omega, l11, by simp only; omega⟩
        simp only [List.mem_cons, List.not_mem_nil, or_false] at hm
        rcases hm with rfl | rfl | rfl | rfl | rfl
        · exact wf_i64 w1
        · exact wf_i64 w2
        · exact wf_i64 w3
        · exact wf_i64 w4
        · exact wf_i64 w5
theorem ynp_bound {H : Type} {enc : TypeId × Value → H} {w : World} {base fuel : Nat} {spare : Nat → Bool} {held : Bool} {A : Option Addr} {np e : Nat} {x : DataW H × List MemPlace}
    (h : DataW.trod enc Tryd.prog w base spare held fuel 41 [.slice A np e] = some x) (hw : (x.1.weights Tryd.prog 41).all (· ≤ reachBytes) = true) : np ≤ 1099511627776 := by
  rcases DataW.trod_slice Tryd.underlying41 h with ⟨hcs, -⟩ | ⟨a, len, cap, el, rest, n, -, hcs, hx, -, -, -, hel, -⟩
  · simp at hcs; omega
  · simp at hcs
    rw [hx] at hw
    have h2 := (wl_slice Tryd.underlying41 hw).1
    rw [show Tryd.prog.bytesOf 43 = 248 by kernel_rfl] at h2
    have := reach_eq
    simp at h2
    omega
/-- Parts that came in. -/
theorem open_yparts {H : Type} {enc : TypeId × Value → H} {w : World} {base fuel : Nat} {spare : Nat → Bool} {held : Bool} {A : Option Addr} {np e : Nat} {x : DataW H × List MemPlace}
    (h : DataW.trod enc Tryd.prog w base spare held fuel 41 [.slice A np e] = some x) (hw : (x.1.weights Tryd.prog 41).all (· ≤ reachBytes) = true) :
    ∃ l : List (Fy × Nat), l.length = np ∧ RdPy w 0 w.heap.size A l ∧ ∀ q ∈ l, (q.1.Ok ∧ (∀ t ∈ q.1.ls, t.length ≤ 140737488351232) ∧ q.1.path.length ≤ 140737488351232 ∧ q.1.data.length ≤ 140737488351232 ∧ q.1.ls.length ≤ 140737488351232 ∧ ∀ m ∈ q.1.c.2, OkM m) ∧ q.2 ≤ 1099511627776 := by
  rcases Go.Deep.open_slice Tryd.underlying41 h with ⟨hcs, -⟩ | ⟨a, len, cap, m, n, Df, Pl2, hcs, -, hlc, -, hmm, hx, hi⟩
  · simp at hcs
    obtain ⟨rfl, rfl, -⟩ := hcs
    exact ⟨[], rfl, RdPy.nil _ _ _ _, fun q hq => absurd hq (by simp)⟩
  · simp at hcs
    obtain ⟨rfl, rfl, rfl⟩ := hcs
    have hlm : np ≤ m := by rw [hmm]; split <;> omega
    rw [hx] at hw
    have hww := (wl_slice Tryd.underlying41 hw).2
    obtain ⟨l, hll, hlp⟩ := list_of_at (α := Fy × Nat) np (fun i q => ((q.1.Ok ∧ (∀ t ∈ q.1.ls, t.length ≤ 140737488351232) ∧ q.1.path.length ≤ 140737488351232 ∧ q.1.data.length ≤ 140737488351232 ∧ q.1.ls.length ≤ 140737488351232 ∧ ∀ m ∈ q.1.c.2, OkM m) ∧ q.2 ≤ 1099511627776) ∧ ∃ pl : Py, (∀ j v, (ycells q.1 pl q.2)[j]? = some v → w.cell? (a.add (i * 22 + j)) = some v) ∧ Rd w 0 w.heap.size pl.A q.1.data ∧ RdT w 0 w.heap.size pl.L q.1.ls ∧ RdM w 0 w.heap.size pl.B q.1.c.2) (fun i hil => by
      obtain ⟨cs', hc, htr⟩ := hi i (by omega)
      rw [show Tryd.prog.cellsOf 43 = 22 by kernel_rfl] at hc
      obtain ⟨_, hcl, hat⟩ := World.cells?_some hc
      obtain ⟨f, pl, k, n2, y, rfl, hok, hrd, hrt, hrm, htp, hwp⟩ := open_yfields htr (hww (Df i) (List.mem_map.2 ⟨i, by simp; exact hil, rfl⟩))
      refine ⟨(f, k), ⟨hok, ynp_bound htp hwp⟩, pl, fun j v hv => ?_, hrd, hrt, hrm⟩
      have hj : j < 22 := by
        have := (Array.getElem?_eq_some_iff.1 hv).1
        simpa [ycells] using this
      have h2 := hat j (by omega)
      rw [Go.Deep.add_add] at h2
      rw [h2]
      simpa using hv)
    refine ⟨l, hll, fun h0 => ?_, fun q hq => ?_⟩
    · obtain ⟨-, pl, hc, -⟩ := hlp 0 l[0] (List.getElem?_eq_getElem h0)
      have hc0 := hc 0 _ rfl
      rw [show a.add (0 * 22 + 0) = a by unfold Addr.add; simp] at hc0
      obtain ⟨b, o, rfl⟩ := spot_none hc0
      refine ⟨b, o, rfl, Nat.zero_le _, World.block_lt_of_cell? w _ hc0, fun i q hq => ?_⟩
      obtain ⟨-, pl, hc, hrd, hrt, hrm⟩ := hlp i q hq
      refine ⟨pl, fun j v hv => ?_, hrd, hrt, hrm⟩
      have h2 := hc j v hv
      rw [Lib.addr_add] at h2
      rw [Nat.add_assoc]
      exact h2
    · obtain ⟨i, hi⟩ := List.mem_iff_getElem?.1 hq
      exact (hlp i q hi).1
set_option maxRecDepth 8000 in
/-- A reply that came in. -/
theorem open_reply {H : Type} {enc : TypeId × Value → H} {w : World} {base : Nat} {r : Reach} {b0 : Nat} {spare : Nat → Bool} {held : Bool} {v : Value} {d : DataW H} {p : List MemPlace}
    (hv : Value.okWide Tryd.prog w r b0 43 v) (h : DataW.Trod enc Tryd.prog w base spare held 43 v d p) (hw : (d.weights Tryd.prog 43).all (· ≤ reachBytes) = true) :
    ∃ (f : Fy) (pl : Py) (l : List (Fy × Nat)), v = yval f pl l.length ∧ (f.Ok ∧ (∀ t ∈ f.ls, t.length ≤ 140737488351232) ∧ f.path.length ≤ 140737488351232 ∧ f.data.length ≤ 140737488351232 ∧ f.ls.length ≤ 140737488351232 ∧ ∀ m ∈ f.c.2, OkM m) ∧ l.length ≤ 1099511627776 ∧ RdY w 0 w.heap.size f pl l ∧ ∀ q ∈ l, (q.1.Ok ∧ (∀ t ∈ q.1.ls, t.length ≤ 140737488351232) ∧ q.1.path.length ≤ 140737488351232 ∧ q.1.data.length ≤ 140737488351232 ∧ q.1.ls.length ≤ 140737488351232 ∧ ∀ m ∈ q.1.c.2, OkM m) ∧ q.2 ≤ 1099511627776 := by
  obtain ⟨cs, rfl, hsz⟩ := okWide_struct Tryd.underlying43 hv
  obtain ⟨fuel, hf⟩ := h
  have hf2 : DataW.trod enc Tryd.prog w base spare held fuel 43 cs.toList = some (d, p) := by simpa [Value.cells] using hf
  obtain ⟨f, pl, np, n, y, hcs, hok, hrd, hrt, hrm, htp, hwp⟩ := open_yfields hf2 hw
  obtain ⟨l, hl, hrp, hlo⟩ := open_yparts htp hwp
  have hnb := ynp_bound htp hwp
  refine ⟨f, pl, l, ?_, hok, by omega, ⟨hrd, hrt, hrm, hrp⟩, hlo⟩
  rw [hl, yval]
  congr 1
  exact Array.toList_inj.1 hcs
/-- An event that came in. -/
theorem open_event {H : Type} {enc : TypeId × Value → H} {w : World} {base : Nat} {r : Reach} {b0 : Nat} {spare : Nat → Bool} {held : Bool} {v : Value} {d : DataW H} {p : List MemPlace}
    (hv : Value.okWide Tryd.prog w r b0 46 v) (h : DataW.Trod enc Tryd.prog w base spare held 46 v d p) (hw : (d.weights Tryd.prog 46).all (· ≤ reachBytes) = true) :
    ∃ f : Fe, v = .agg (ecells f) ∧ f.Ok ∧ f.path.length ≤ 140737488351232 := by
  obtain ⟨cs, rfl, hsz⟩ := okWide_struct Tryd.underlying46 hv
  obtain ⟨fuel, hf⟩ := h
  have hf2 : DataW.trod enc Tryd.prog w base spare held fuel 46 cs.toList = some (d, p) := by simpa [Value.cells] using hf
  obtain ⟨xs, n, -, hx, hcl, hxl, hat⟩ := DataW.trod_struct Tryd.underlying46 hf2
  rw [show Tryd.prog.cellsOf 46 = 4 by kernel_rfl] at hcl
  have hxl : xs.length = 4 := hxl
  have hd : d = _ := congrArg Prod.fst hx
  rw [hd, DataW.weights, Tryd.underlying46] at hw
  simp only at hw
  have hww := wl_each hw
  obtain ⟨ar⟩ := cs
  clear hw hf hf2 hx hd hsz hv
  simp only at hcl hat
  match ar, hcl, xs, hxl with
  | [c0, c1, c2, c3], _, [y0, y1, y2, y3], _ =>
    have h0 : DataW.trod enc Tryd.prog w base spare held n 44 (([c0, c1, c2, c3].drop 0).take (Tryd.prog.cellsOf 44)) = some y0 := hat 0 _ rfl
    rw [show Tryd.prog.cellsOf 44 = 1 by kernel_rfl] at h0
    have h0 : DataW.trod enc Tryd.prog w base spare held n 44 [c0] = some y0 := h0
    have h1 : DataW.trod enc Tryd.prog w base spare held n 24 (([c0, c1, c2, c3].drop 1).take (Tryd.prog.cellsOf 24)) = some y1 := hat 1 _ rfl
    rw [show Tryd.prog.cellsOf 24 = 1 by kernel_rfl] at h1
    have h1 : DataW.trod enc Tryd.prog w base spare held n 24 [c1] = some y1 := h1
    have h2 : DataW.trod enc Tryd.prog w base spare held n 9 (([c0, c1, c2, c3].drop 2).take (Tryd.prog.cellsOf 9)) = some y2 := hat 2 _ rfl
    rw [show Tryd.prog.cellsOf 9 = 1 by kernel_rfl] at h2
    have h2 : DataW.trod enc Tryd.prog w base spare held n 9 [c2] = some y2 := h2
    have h3 : DataW.trod enc Tryd.prog w base spare held n 25 (([c0, c1, c2, c3].drop 3).take (Tryd.prog.cellsOf 25)) = some y3 := hat 3 _ rfl
    rw [show Tryd.prog.cellsOf 25 = 1 by kernel_rfl] at h3
    have h3 : DataW.trod enc Tryd.prog w base spare held n 25 [c3] = some y3 := h3
    clear hat
    obtain ⟨z0, q0, -, w0⟩ := DataW.trod_int Tryd.underlying44 h0
    simp only [List.cons.injEq, and_true] at q0
    obtain ⟨z1, q1, -, w1⟩ := DataW.trod_int Tryd.underlying24 h1
    simp only [List.cons.injEq, and_true] at q1
    obtain ⟨z3, q3, -, w3⟩ := DataW.trod_int Tryd.underlying25 h3
    simp only [List.cons.injEq, and_true] at q3
    obtain ⟨S, q2, x2, -⟩ := DataW.trod_string Tryd.underlying9 h2
    simp only [List.cons.injEq, and_true] at q2
    have s2 := hww 2 9 y2.1 rfl rfl
    rw [x2] at s2
    have s2 := lit_string s2
    refine ⟨⟨z0, z1, S.data.toList, z3⟩, ?_, ⟨wf_u8 w0, wf_u8 w1, wf_i64 w3, by simp only; omega⟩, s2⟩
    rw [q0, q1, q2, q3]
    simp [ecells]
end Go.Proofs.YtlckgkpgllhpbaaDoor
