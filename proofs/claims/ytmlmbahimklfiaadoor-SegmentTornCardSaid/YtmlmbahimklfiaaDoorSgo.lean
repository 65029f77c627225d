/-
  Sgo: a row of deeds that came in.
-/
import Derived.Test.YtmlmbahimklfiaaDoorDop
import Derived.Test.YtmlmbahimklfiaaDoorSgb
namespace Go.Proofs.YtmlmbahimklfiaaDoor
open Go.RowKit Go.ChangeShapes Go.WideShapes

set_option maxRecDepth 8000 in
/-- Deeds that came in. -/
theorem open_deeds {H : Type} {enc : TypeId × Value → H} {w : World} {base : Nat} {r : Reach} {b0 : Nat} {spare : Nat → Bool} {held : Bool} {v : Value} {d : DataW H} {p : List MemPlace}
    (hv : Value.okWide Tryd.prog w r b0 27 v) (h : DataW.Trod enc Tryd.prog w base spare held 27 v d p) (hw : (d.weights Tryd.prog 27).all (· ≤ reachBytes) = true) :
    ∃ (A : Option Addr) (ds : List De) (c : Nat), v = .slice A ds.length c ∧ ds.length ≤ c ∧ c ≤ maxLen ∧ RdS w 0 w.heap.size A ds ∧ ∀ x ∈ ds, x.1.Ok ∧ x.2.length ≤ 140737488355328 ∧ ∀ q ∈ x.2, q.1.Ok ∧ q.2 ≤ 140737488355328 := by
  obtain ⟨a0, len0, cap0, rfl⟩ := okWide_slice Tryd.underlying27 hv
  obtain ⟨fuel, hf⟩ := h
  have hf2 : DataW.trod enc Tryd.prog w base spare held fuel 27 [.slice a0 len0 cap0] = some (d, p) := by simpa [Value.cells] using hf
  rcases Go.Deep.open_slice Tryd.underlying27 hf2 with ⟨hcs, -⟩ | ⟨a, len, cap, m, n, Df, Pl2, hcs, -, hlc, hcm, hmm, hx, hi⟩
  · simp at hcs
    obtain ⟨rfl, rfl, rfl⟩ := hcs
    exact ⟨none, [], 0, rfl, Nat.le_refl _, Nat.zero_le _, RdS.nil _ _ _ _, fun q hq => absurd hq (by simp)⟩
  · simp at hcs
    obtain ⟨rfl, rfl, rfl⟩ := hcs
    have hlm : len0 ≤ m := by rw [hmm]; split <;> omega
    have hd := congrArg Prod.fst hx
    simp only at hd
    rw [hd] at hw
    have hww := (wl_slice Tryd.underlying27 hw).2
    obtain ⟨l, hll, hlp⟩ := list_of_at (α := De) len0 (fun i q => (q.1.Ok ∧ q.2.length ≤ 140737488355328 ∧ ∀ x ∈ q.2, x.1.Ok ∧ x.2 ≤ 140737488355328) ∧ ∃ pl : Pl, (∀ j v, (dcells q.1 pl q.2.length)[j]? = some v → w.cell? (a.add (i * 16 + j)) = some v) ∧ RdD w 0 w.heap.size q.1 pl q.2) (fun i hil => by
      obtain ⟨cs', hc, htr⟩ := hi i (by omega)
      rw [show Tryd.prog.cellsOf 35 = 16 by kernel_rfl] at hc
      obtain ⟨_, hcl, hat⟩ := World.cells?_some hc
      obtain ⟨f, pl, k, n2, y, rfl, hok, hrd, hrm, htp, hwp⟩ := open_fields htr (hww (Df i) (List.mem_map.2 ⟨i, by simp; exact hil, rfl⟩))
      obtain ⟨ps, hps, hrp, hpo⟩ := open_parts htp hwp
      have hnb := np_bound htp hwp
      subst hps
      refine ⟨(f, ps), ⟨hok, hnb, hpo⟩, pl, fun j v hv => ?_, ⟨hrd, hrm, hrp⟩⟩
      have hj : j < 16 := by
        have := (Array.getElem?_eq_some_iff.1 hv).1
        simpa [dcells] using this
      have h2 := hat j (by omega)
      rw [Go.Deep.add_add] at h2
      rw [h2]
      simpa using hv)
    subst hll
    refine ⟨some a, l, cap0, rfl, hlc, hcm, fun h0 => ?_, fun q hq => ?_⟩
    · obtain ⟨-, pl, hc, -⟩ := hlp 0 l[0] (List.getElem?_eq_getElem h0)
      have hc0 := hc 0 _ rfl
      rw [show a.add (0 * 16 + 0) = a by unfold Addr.add; simp] at hc0
      obtain ⟨b, o, rfl⟩ := spot_none hc0
      refine ⟨b, o, rfl, Nat.zero_le _, World.block_lt_of_cell? w _ hc0, fun i q hq => ?_⟩
      obtain ⟨-, pl, hc, hrd⟩ := hlp i q hq
      refine ⟨pl, fun j v hv => ?_, hrd⟩
      have h2 := hc j v hv
      rw [Lib.addr_add] at h2
      rw [Nat.add_assoc]
      exact h2
    · obtain ⟨i, hi⟩ := List.mem_iff_getElem?.1 hq
      exact (hlp i q hi).1
end Go.Proofs.YtmlmbahimklfiaaDoor
