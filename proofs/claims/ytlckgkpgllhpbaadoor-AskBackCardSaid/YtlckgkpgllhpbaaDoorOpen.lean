/-
  Open: what the rows hand over, as this seat's words: bytes that came in.
-/
import Derived.Test.YtlckgkpgllhpbaaDoorBase
import Derived.ProofKit
import Derived.OpenShut
import Derived.ShutString
import Derived.SizedLaws
namespace Go.Proofs.YtlckgkpgllhpbaaDoor
open Go.ChangeShapes Go.WideShapes Go.ChangeAt Go.RowKit

theorem spot_none {w : World} {a : Addr} {v : Value} (h : w.cell? a = some v) : ∃ b o, a = ⟨b, o, none⟩ := by
  obtain ⟨b, o, sp⟩ := a
  refine ⟨b, o, ?_⟩
  unfold World.cell? at h
  split at h
  · split at h
    · cases h
    · rename_i hs
      cases sp with
      | none => rfl
      | some x => simp at hs
  · cases h
theorem u8_wf {z : Int} (h : (Lit.int .u8 z).wf = true) : ((UInt8.ofNat z.toNat).toNat : Int) = z := by
  have := bounds_u8 h
  simp only [UInt8.toNat_ofNat']
  omega

/-- A slice of bytes that came in reads as a list of bytes. -/
theorem open_bytes {H : Type} {enc : TypeId × Value → H} {P : Program} {w : World} {base t e : Nat} {r : Reach} {b0 : Nat} {spare : Nat → Bool} {held : Bool} {v : Value} {d : DataW H} {p : List MemPlace}
    (ht : P.underlying t = some (.slice e)) (he : P.underlying e = some (.int .u8)) (hC : P.cellsOf e = 1) (hv : Value.okWide P w r b0 t v) (h : DataW.Trod enc P w base spare held t v d p) :
    ∃ (A : Option Addr) (l : List UInt8) (c : Nat), v = .slice A l.length c ∧ l.length ≤ c ∧ c ≤ maxLen ∧ Rd w 0 w.heap.size A l ∧ ((d = .nil ∧ l = []) ∨ ∃ el sp, d = .slice el sp ∧ el.length = l.length) := by
  obtain ⟨a0, len, cap, rfl⟩ := okWide_slice ht hv
  obtain ⟨fuel, hf⟩ := h
  rcases open_ints ht he hC hf with ⟨hcs, hx⟩ | ⟨x, l, c, zs, hcs, _, hl, hm, hz, hx, hcell, hwz⟩
  · simp [Value.cells] at hcs
    obtain ⟨rfl, rfl, rfl⟩ := hcs
    simp only [Prod.mk.injEq] at hx
    exact ⟨none, [], 0, rfl, by simp, by unfold maxLen; omega, Rd.nil _ _ _ _, .inl ⟨hx.1, rfl⟩⟩
  · simp [Value.cells] at hcs
    obtain ⟨rfl, rfl, rfl⟩ := hcs
    have hzl : len ≤ zs.length := by rw [hz]; split <;> omega
    have hlen : ((zs.take len).map fun z => UInt8.ofNat z.toNat).length = len := by simp; omega
    simp only [Prod.mk.injEq] at hx
    refine ⟨some x, (zs.take len).map fun z => UInt8.ofNat z.toNat, cap, by rw [hlen], by omega, hm, ?_, .inr ⟨_, _, hx.1, ?_⟩⟩
    · intro h0
      rw [hlen] at h0
      have hc0 := hcell 0 (by omega)
      rw [show x.add 0 = x by unfold Addr.add; simp] at hc0
      obtain ⟨b, o, rfl⟩ := spot_none hc0
      refine ⟨b, o, rfl, Nat.zero_le _, World.block_lt_of_cell? w _ hc0, fun i hi => ?_⟩
      rw [hlen] at hi
      have hci := hcell i (by omega)
      rw [Lib.addr_add] at hci
      rw [hci]
      have hiz : i < zs.length := by omega
      have e1 : ((zs.take len).map fun z => UInt8.ofNat z.toNat).getD i 0 = UInt8.ofNat (zs.getD i 0).toNat := by
        simp [List.getD, hi, hiz]
      rw [e1]
      have hw := hwz (zs.getD i 0) (by simp [List.getD, hiz])
      rw [u8_wf hw]
    · rw [hlen]; simp [lits]; omega

end Go.Proofs.YtlckgkpgllhpbaaDoor
