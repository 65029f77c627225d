/-
  Dec: fits of any deed; parts.
-/
import Derived.Test.YtljioepkbbbibaaDoorDfa
import Derived.Test.YtljioepkbbbibaaDoorDfb
import Derived.Test.YtljioepkbbbibaaDoorDfc
namespace Go.Proofs.YtljioepkbbbibaaDoor
open Go.RowKit

theorem FitsD.kind {f : Fd} {np : Nat} (h : FitsD f np) : 1 ≤ f.k ∧ f.k ≤ 9 := by
  rcases h with h | h | h | h | h | h | h | h | h <;> (have := h.1; omega)
set_option maxHeartbeats 1600000 in
theorem dfits_calls (f : Fd) (p : Pl) (np : Nat) (w : World) (hf : f.Ok) (hn : np ≤ 140737488355328) (hH : Has w) :
    Calls Tryd.prog 33 #[dval f p np] w fun e w' => e = .returned (.bool (decide (FitsD f np))) ∧ Fr NoB w w' := by
  by_cases hk : 1 ≤ f.k ∧ f.k ≤ 9
  · rcases (show f.k = 1 ∨ f.k = 2 ∨ f.k = 3 ∨ f.k = 4 ∨ f.k = 5 ∨ f.k = 6 ∨ f.k = 7 ∨ f.k = 8 ∨ f.k = 9 by omega) with h | h | h | h | h | h | h | h | h
    · exact fits1_calls f p np w hf hn hH h
    · exact fits2_calls f p np w hf hn hH h
    · exact fits3_calls f p np w hf hn hH h
    · exact fits4_calls f p np w hf hn hH h
    · exact fits5_calls f p np w hf hn hH h
    · exact fits6_calls f p np w hf hn hH h
    · exact fits7_calls f p np w hf hn hH h
    · exact fits8_calls f p np w hf hn hH h
    · exact fits9_calls f p np w hf hn hH h
  · rw [decide_eq_false (fun h => hk h.kind)]
    have hk0 := hf.k
    have hk2 : f.k < 1 ∨ 9 < f.k := by omega
    clear hk
    obtain ⟨z, k, s, t, x, m, path, data, ow, ve, cv, ti, er, cver, ms⟩ := f
    obtain ⟨A, c, B, d, P, e'⟩ := p
    clear hf hH
    simp only [dval, dcells] at *
    rcases hk2 with hk2 | hk2
    · go_enter Tryd.func33, Tryd.ntmps33
      go_wp2
      all_goals first
        | (go_ret; exact ⟨rfl, (Fr.refl NoB w).alloc _⟩)
        | (exfalso; omega)
        | trace_state
    · have hk3 : ¬ k < 1 := by omega
      go_enter Tryd.func33, Tryd.ntmps33
      go_wp2
      all_goals first
        | (go_ret; exact ⟨rfl, (Fr.refl NoB w).alloc _⟩)
        | (exfalso; omega)
        | trace_state
end Go.Proofs.YtljioepkbbbibaaDoor
