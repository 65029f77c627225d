/-
  Enn: EnsembleBytes's walk.
-/
import Derived.Test.YtljioepkbbbibaaDoorEnm
namespace Go.Proofs.YtljioepkbbbibaaDoor
open Go.RowKit

/-- What Put answers: bytes and an error. -/
def putE (v : Int) (ms : List Mem) : List UInt8 × Int := if chk v ms = 0 then (ensB v ms, 0) else ([], chk v ms)
theorem putE_len (v : Int) (ms : List Mem) : (putE v ms).1.length ≤ 400 := by
  unfold putE
  split
  · rename_i h
    have h7 := (chk_len h).1
    have h1 := memsB_len ms
    have h2 := intB_len v
    have h3 := intB_len (ms.length : Int)
    simp only [ensB, List.length_append]
    omega
  · simp
theorem putE_ok {v : Int} {ms : List Mem} (h : (putE v ms).2 = 0) : getE (putE v ms).1 = some (v, ms) := by
  unfold putE at h ⊢
  by_cases hc : chk v ms = 0
  · rw [if_pos hc]; exact get_front hc
  · rw [if_neg hc] at h; exact absurd h hc
theorem put_calls (v : Int) (A : Option Addr) (ms : List Mem) (c lo hi : Nat) (w : World) (h : RdM w lo hi A ms) (hh : hi ≤ w.heap.size) (hl : ms.length ≤ 140737488355328) :
    Calls Tryd.prog 61 #[.agg #[.int .i64 v, .slice A ms.length c]] w fun e w' => ∃ A' c', e = .returned (.tuple #[.slice A' (putE v ms).1.length c', .int .i64 (putE v ms).2]) ∧ Rd w' w.heap.size w'.heap.size A' (putE v ms).1 ∧ Fr NoB w w' := by
  unfold putE
  by_cases hc : chk v ms = 0
  · rw [if_pos hc]
    refine (put_config v A ms c lo hi w h hh hl hc).mono ?_
    rintro e w' ⟨A', c', rfl, -, -, h1, h2⟩
    exact ⟨A', c', rfl, h1, h2⟩
  · rw [if_neg hc]
    refine (put_bad v A ms c lo hi w h hh hl hc).mono ?_
    rintro e w' ⟨rfl, h2⟩
    exact ⟨none, 0, rfl, Rd.nil _ _ _ _, h2⟩
def getV (b : List UInt8) : Int × List Mem × Int := match getE b with
  | some (v, ms) => (v, ms, 0)
  | none => (0, [], 4)
theorem getV_len (b : List UInt8) : (getV b).2.1.length ≤ 7 := by
  unfold getV
  cases hg : getE b with
  | none => simp
  | some x =>
    obtain ⟨v, ms⟩ := x
    exact (chk_len (get_back hg).2).1
theorem getV_of {b : List UInt8} {v : Int} {ms : List Mem} {z : Int} (h : (getE b = some (v, ms) ∧ z = 0) ∨ (getE b = none ∧ v = 0 ∧ ms = [] ∧ z = 4)) : v = (getV b).1 ∧ ms = (getV b).2.1 ∧ z = (getV b).2.2 := by
  unfold getV
  rcases h with ⟨h, rfl⟩ | ⟨h, rfl, rfl, rfl⟩
  · rw [h]; exact ⟨rfl, rfl, rfl⟩
  · rw [h]; exact ⟨rfl, rfl, rfl⟩
theorem getV_some {b : List UInt8} {v : Int} {ms : List Mem} (h : getE b = some (v, ms)) : getV b = (v, ms, 0) := by
  unfold getV
  rw [h]
theorem get_any2 (A : Option Addr) (b : List UInt8) (c lo hi : Nat) (w : World) (h : Rd w lo hi A b) (hh : hi ≤ w.heap.size) (hl : b.length ≤ 140737488355328) :
    Calls Tryd.prog 71 #[.slice A b.length c] w fun e w' => ∃ A' c', e = .returned (.tuple #[.agg #[.int .i64 (getV b).1, .slice A' (getV b).2.1.length c'], .int .i64 (getV b).2.2]) ∧ RdM w' w.heap.size w'.heap.size A' (getV b).2.1 ∧ Fr NoB w w' := by
  refine (get_calls A b c lo hi w h hh hl).mono ?_
  rintro e w' ⟨v, A', ms, c', z, rfl, h1, h2, h3⟩
  obtain ⟨rfl, rfl, rfl⟩ := getV_of h3
  exact ⟨A', c', rfl, h1, h2⟩
theorem Rd.pre {w : World} {lo hi : Nat} {A : Option Addr} {a b : List UInt8} (h : Rd w lo hi A (a ++ b)) : Rd w lo hi A a := by
  have := h.take (n := a.length)
  rwa [List.take_left' rfl] at this

theorem Rd.step {w w' : World} {A : Option Addr} {l : List UInt8} (h : Rd w 0 w.heap.size A l) (f : Fr NoB w w') : Rd w' 0 w'.heap.size A l := (h.fr f (Nat.le_refl _) (fun _ _ _ x => x)).wide (Nat.le_refl _) f.size
theorem RdM.step {w w' : World} {A : Option Addr} {l : List Mem} (h : RdM w 0 w.heap.size A l) (f : Fr NoB w w') : RdM w' 0 w'.heap.size A l := (h.fr f (Nat.le_refl _) (fun _ _ _ x => x)).wide (Nat.le_refl _) f.size

end Go.Proofs.YtljioepkbbbibaaDoor
