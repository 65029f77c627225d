/-
  Ntx: steps that came in.
-/
import Derived.Test.YtmgkenbfjlahpaaOpen
import Derived.Test.YtmgkenbfjlahpaaNtb
import Derived.Deep.Slices
import Derived.Lib.SmallJoins
import Derived.ChangeArms
namespace Go.Proofs.Ytmgkenbfjlahpaa
open Go.ChangeShapes Go.WideShapes Go.ChangeAt Go.RowKit Go.Deep Go.Joins

theorem i64_wfN {z : Int} (h : (Lit.int .i64 z).wf = true) : -9223372036854775808 ≤ z ∧ z ≤ 9223372036854775807 := by
  have := bounds_i64 h
  omega
/-- Bytes that a cell holds. -/
theorem open_cell_bytesN {H : Type} {enc : TypeId × Value → H} {P : Program} {w : World} {base t e fuel : Nat} {spare : Nat → Bool} {held : Bool} {v : Value} {x : DataW H × List MemPlace}
    (ht : P.underlying t = some (.slice e)) (he : P.underlying e = some (.int .u8)) (hC : P.cellsOf e = 1) (h : DataW.trod enc P w base spare held fuel t [v] = some x) :
    ∃ (B : Option Addr) (l : List UInt8) (c : Nat), v = .slice B l.length c ∧ l.length ≤ c ∧ c ≤ maxLen ∧ Rd w 0 w.heap.size B l := by
  rcases open_ints ht he hC h with ⟨hcs, hx⟩ | ⟨a, len, cap, zs, hcs, _, hl, hm, hz, hx, hcell, hwz⟩
  · simp at hcs
    exact ⟨none, [], 0, hcs, Nat.le_refl _, by unfold maxLen; omega, Rd.nil _ _ _ _⟩
  · simp at hcs
    have hzl : len ≤ zs.length := by rw [hz]; split <;> omega
    have hlen : ((zs.take len).map fun z => UInt8.ofNat z.toNat).length = len := by simp; omega
    refine ⟨some a, (zs.take len).map fun z => UInt8.ofNat z.toNat, cap, by rw [hlen, hcs], by omega, hm, ?_⟩
    intro h0
    rw [hlen] at h0
    have hc0 := hcell 0 (by omega)
    rw [show a.add 0 = a by unfold Addr.add; simp] at hc0
    obtain ⟨b, o, rfl⟩ := spot_none hc0
    refine ⟨b, o, rfl, Nat.zero_le _, World.block_lt_of_cell? w _ hc0, fun i hi => ?_⟩
    rw [hlen] at hi
    have hci := hcell i (by omega)
    rw [Lib.addr_add] at hci
    rw [hci]
    have hiz : i < zs.length := by omega
    have e1 : ((zs.take len).map fun z => UInt8.ofNat z.toNat).getD i 0 = UInt8.ofNat (zs.getD i 0).toNat := by
      simp [List.getD, hi, hiz]
    rw [e1]
    have hw := hwz (zs.getD i 0) (by simp [List.getD, hiz])
    rw [u8_wf hw]
/-- The steps' cells. -/
def RdO (w : World) (A : Option Addr) (n : Nat) : Prop :=
  0 < n → ∃ b o, A = some ⟨b, o, none⟩ ∧ b < w.heap.size ∧ ∀ i, i < n → ∃ (op x y z : Int) (B : Option Addr) (l : List UInt8) (c : Nat), InR (x, y) ∧ z ≤ 9223372036854775807 ∧ Rd w 0 w.heap.size B l ∧
    w.cell? ⟨b, o + i * 5, none⟩ = some (.int .i64 op) ∧ w.cell? ⟨b, o + i * 5 + 1, none⟩ = some (.int .i64 x) ∧ w.cell? ⟨b, o + i * 5 + 2, none⟩ = some (.int .i64 y) ∧ w.cell? ⟨b, o + i * 5 + 3, none⟩ = some (.int .i64 z) ∧ w.cell? ⟨b, o + i * 5 + 4, none⟩ = some (.slice B l.length c)
set_option maxRecDepth 20000 in
theorem open_dos {H : Type} {enc : TypeId × Value → H} {w : World} {base : Nat} {r : Reach} {b0 : Nat} {spare : Nat → Bool} {held : Bool} {v : Value} {d : DataW H} {p : List MemPlace}
    (hv : Value.okWide Try.prog w r b0 36 v) (h : DataW.Trod enc Try.prog w base spare held 36 v d p) :
    ∃ (A : Option Addr) (n c : Nat), v = .slice A n c ∧ n ≤ c ∧ c ≤ maxLen ∧ RdO w A n := by
  obtain ⟨a0, len0, cap0, rfl⟩ := okWide_slice Try.underlying36 hv
  obtain ⟨fuel, hf⟩ := h
  rcases Go.Deep.open_slice Try.underlying36 hf with ⟨hcs, -⟩ | ⟨a, len, cap, m, n, Df, Pl, hcs, -, hl, hm, hmm, hx, hi⟩
  · simp [Value.cells] at hcs
    obtain ⟨rfl, rfl, rfl⟩ := hcs
    exact ⟨none, 0, 0, rfl, Nat.le_refl _, by unfold maxLen; omega, fun h0 => absurd h0 (Nat.lt_irrefl 0)⟩
  · simp [Value.cells] at hcs
    obtain ⟨rfl, rfl, rfl⟩ := hcs
    have hlm : len0 ≤ m := by rw [hmm]; split <;> omega
    have hall : ∀ i, i < len0 → ∃ (op x y z : Int) (B : Option Addr) (l : List UInt8) (c : Nat), InR (x, y) ∧ z ≤ 9223372036854775807 ∧ Rd w 0 w.heap.size B l ∧
        w.cell? (a.add (i * 5)) = some (.int .i64 op) ∧ w.cell? (a.add (i * 5 + 1)) = some (.int .i64 x) ∧ w.cell? (a.add (i * 5 + 2)) = some (.int .i64 y) ∧ w.cell? (a.add (i * 5 + 3)) = some (.int .i64 z) ∧ w.cell? (a.add (i * 5 + 4)) = some (.slice B l.length c) := fun i hil => by
      obtain ⟨cs', hc, htr⟩ := hi i (by omega)
      rw [show Try.prog.cellsOf 40 = 5 by kernel_rfl] at hc
      obtain ⟨_, hcl, hat⟩ := World.cells?_some hc
      obtain ⟨xs, n', rfl, hx', -, hxl, hff⟩ := DataW.trod_struct Try.underlying40 htr
      have hxl : xs.length = 5 := hxl
      match cs', hcl, xs, hxl with
      | [c0, c1, c2, c3, c4], _, [y0, y1, y2, y3, y4], _ =>
        have h0 : DataW.trod enc Try.prog w base spare held n' 3 (([c0, c1, c2, c3, c4].drop 0).take (Try.prog.cellsOf 3)) = some y0 := hff 0 _ rfl
        have h1 : DataW.trod enc Try.prog w base spare held n' 3 (([c0, c1, c2, c3, c4].drop 1).take (Try.prog.cellsOf 3)) = some y1 := hff 1 _ rfl
        have h2 : DataW.trod enc Try.prog w base spare held n' 3 (([c0, c1, c2, c3, c4].drop 2).take (Try.prog.cellsOf 3)) = some y2 := hff 2 _ rfl
        have h3 : DataW.trod enc Try.prog w base spare held n' 3 (([c0, c1, c2, c3, c4].drop 3).take (Try.prog.cellsOf 3)) = some y3 := hff 3 _ rfl
        have h4 : DataW.trod enc Try.prog w base spare held n' 22 (([c0, c1, c2, c3, c4].drop 4).take (Try.prog.cellsOf 22)) = some y4 := hff 4 _ rfl
        rw [show Try.prog.cellsOf 3 = 1 by kernel_rfl] at h0 h1 h2 h3
        rw [show Try.prog.cellsOf 22 = 1 by kernel_rfl] at h4
        have h0 : DataW.trod enc Try.prog w base spare held n' 3 [c0] = some y0 := h0
        have h1 : DataW.trod enc Try.prog w base spare held n' 3 [c1] = some y1 := h1
        have h2 : DataW.trod enc Try.prog w base spare held n' 3 [c2] = some y2 := h2
        have h3 : DataW.trod enc Try.prog w base spare held n' 3 [c3] = some y3 := h3
        have h4 : DataW.trod enc Try.prog w base spare held n' 22 [c4] = some y4 := h4
        obtain ⟨z0, q0, -, w0⟩ := DataW.trod_int Try.underlying3 h0
        obtain ⟨z1, q1, -, w1⟩ := DataW.trod_int Try.underlying3 h1
        obtain ⟨z2, q2, -, w2⟩ := DataW.trod_int Try.underlying3 h2
        obtain ⟨z3, q3, -, w3⟩ := DataW.trod_int Try.underlying3 h3
        obtain ⟨B, l, c, q4, -, -, hrd⟩ := open_cell_bytesN Try.underlying22 Try.underlying5 (by kernel_rfl) h4
        have a0 := hat 0 (by omega)
        have a1 := hat 1 (by omega)
        have a2 := hat 2 (by omega)
        have a3 := hat 3 (by omega)
        have a4 := hat 4 (by omega)
        rw [Go.Deep.add_add] at a0 a1 a2 a3 a4
        simp at q0 q1 q2 q3 a0 a1 a2 a3 a4
        exact ⟨z0, z1, z2, z3, B, l, c, ⟨i64_wfN w1, i64_wfN w2⟩, (i64_wfN w3).2, hrd, by rw [a0, q0], by rw [a1, q1], by rw [a2, q2], by rw [a3, q3], by rw [a4, q4]⟩
    refine ⟨some a, len0, cap0, rfl, by omega, hm, fun h0 => ?_⟩
    obtain ⟨op, x, y, z, B, l, c, -, -, -, hc0, -⟩ := hall 0 h0
    rw [show a.add (0 * 5) = a by unfold Addr.add; simp] at hc0
    obtain ⟨b, o, rfl⟩ := spot_none hc0
    refine ⟨b, o, rfl, World.block_lt_of_cell? w _ hc0, fun i hil => ?_⟩
    obtain ⟨op, x, y, z, B, l, c, k1, k2, k3, c0, c1, c2, c3, c4⟩ := hall i hil
    rw [Lib.addr_add] at c0 c1 c2 c3 c4
    exact ⟨op, x, y, z, B, l, c, k1, k2, k3, c0, by rw [Nat.add_assoc]; exact c1, by rw [Nat.add_assoc]; exact c2, by rw [Nat.add_assoc]; exact c3, by rw [Nat.add_assoc]; exact c4⟩
end Go.Proofs.Ytmgkenbfjlahpaa
