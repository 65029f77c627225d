/-
  Ntn: a region that draws its order, order by order.
-/
import Derived.Test.YtmgkenbfjlahpaaBase
import Derived.Deep.RegionHeld3
import Derived.Lib.Hide
namespace Go.Proofs.Ytmgkenbfjlahpaa
open Go.RowKit Go.Lib

/-- Operation j waits for operation i (or there is none). -/
def waits (md : Region.Mode) (ops : Array Oper) (i j : Nat) : Bool := match ops[j]? with | none => true | some o => o.after.any fun e => Region.binds md e && e.on == i
/-- Whatever order is picked from here on; behind operation i the condition S i holds. -/
def wpAnyJ (P : Program) (md : Region.Mode) (ops : Array Oper) (Q : Exit → Act → World → Prop) (S : Nat → World → Prop) : Nat → Array Bool → Act → World → Prop
  | 0, listed, a, w => Region.ready md ops listed = [] ∧ Q .normal a w
  | fuel + 1, listed, a, w =>
    (Region.ready md ops listed = [] → Q .normal a w) ∧
    ∀ i ∈ Region.ready md ops listed, wpOp P ops Q i (fun a' w' => S i w' ∧ wpAnyJ P md ops Q S fuel (listed.setIfInBounds i true) a' w') a w
section
variable {P : Program} {ops : Array Oper} {Q : Exit → Act → World → Prop} {md : Region.Mode} {S : Nat → World → Prop}
theorem wpAny_of_J : ∀ (fuel : Nat) (listed : Array Bool) (a : Act) (w : World), wpAnyJ P md ops Q S fuel listed a w → wpAny P md ops Q fuel listed a w
  | 0, _, _, _, h => h
  | fuel + 1, _, _, _, h => ⟨h.1, fun i hi => wpOp_mono (fun a' w' h' => wpAny_of_J fuel _ a' w' h'.2) (h.2 i hi)⟩
/-- An operation that yields its value wherever C holds may be taken first, if C is held behind all that does not wait for it. -/
theorem J_first {i : Nat} {oi : Oper} {v : Value} {C : World → Prop} {listed0 : Array Bool} (hi : ops[i]? = some oi) (hs : Region.noSelect ops = true)
    (hQ : ∀ c a w, Q (.panic c) (a.put oi.dst v) w → Q (.panic c) a w) (hC : ∀ j w, listed0.getD j true = false → waits md ops i j = false → S j w → C w) (hSi : ∀ w, C w → S i w) :
    ∀ (fuel : Nat) (listed : Array Bool) (a : Act) (w : World), (∀ j, listed.getD j true = false → listed0.getD j true = false) → (∀ j oj, ops[j]? = some oj → j ≠ i → listed.getD j true = false → (∀ e ∈ oj.after, Region.binds md e = true → e.on ≠ i) → oi.apart ops oj = true) →
      i ∈ Region.ready md ops listed → YieldsIf P ops C oi v a → C w → wpAnyJ P md ops Q S fuel (listed.setIfInBounds i true) (a.put oi.dst v) w → wpAnyJ P md ops Q S (fuel + 1) listed a w
  | fuel, listed, a, w, hL, hf, hr, hy, hw, H => by
    refine ⟨fun h => (by rw [h] at hr; cases hr), fun j hj => ?_⟩
    by_cases hji : j = i
    · subst hji
      exact hy.wpOp hi hw ⟨hSi w hw, H⟩
    cases fuel with
    | zero =>
      have := ready_mono hj hji
      rw [H.1] at this
      cases this
    | succ fuel =>
      obtain ⟨hun, oj, hoj, hall⟩ := mem_ready.1 hj
      have hun0 := (mem_ready.1 hr).1
      have hno : ∀ e ∈ oj.after, Region.binds md e = true → e.on ≠ i := fun e he hb heq => by
        have h1 := hall e he hb
        rw [heq] at h1
        rcases Nat.lt_or_ge i listed.size with h' | h'
        · simp [h'] at hun0 h1; rw [hun0] at h1; cases h1
        · simp [Array.getElem?_eq_none h'] at h1
      have hwt : waits md ops i j = false := by
        unfold waits
        rw [hoj]
        simp only [Array.any_eq_false]
        intro x hx
        simp only [Bool.and_eq_true, beq_iff_eq, not_and]
        exact fun hb => hno _ (Array.getElem_mem hx) hb
      have h2 := wpOp_putIf hoj (hf j oj hoj hji hun hno) (fun cs b => Region.noSelect_spec hs i oi cs b hi) (fun cs b => Region.noSelect_spec hs j oj cs b hoj) hQ hy (H.2 j (ready_mono hj hji))
      refine wpOp_mono (fun a' w' h3 => ⟨h3.2.1, J_first hi hs hQ hC hSi fuel (listed.setIfInBounds j true) a' w' (fun k hk => hL k (by
        by_cases hjk : j = k
        · exact hjk ▸ hun
        · rwa [getD_set_ne true hjk] at hk)) (fun k ok hk hki hu hn => hf k ok hk hki ?_ hn) (ready_mono hr (Ne.symm hji)) h3.1 (hC j w' (hL j hun) hwt h3.2.1) ?_⟩) h2
      · by_cases hjk : j = k
        · exact hjk ▸ hun
        · rwa [getD_set_ne true hjk] at hu
      · rw [Array.setIfInBounds_comm _ _ hji]
        exact h3.2.2
theorem J_take {i : Nat} {oi : Oper} {v : Value} {fuel : Nat} {listed : Array Bool} {a : Act} {w : World} (C : World → Prop) (m : Nat → Bool) (hi : ops[i]? = some oi) (hs : Region.noSelect ops = true) (hf : Region.free md ops listed i = true) (hr : (Region.ready md ops listed).contains i = true)
    (hm : ((List.range ops.size).all fun j => listed.getD j true || (waits md ops i j || m j)) = true) (hQ : ∀ c a w, Q (.panic c) (a.put oi.dst v) w → Q (.panic c) a w) (hC : ∀ j w, m j = true → S j w → C w) (hSi : ∀ w, C w → S i w) (hw : C w) (hy : YieldsIf P ops C oi v a)
    (h : wpAnyJ P md ops Q S fuel (listed.setIfInBounds i true) (a.put oi.dst v) w) : wpAnyJ P md ops Q S (fuel + 1) listed a w := by
  refine J_first (listed0 := listed) hi hs hQ (fun j w hl hn hS => ?_) hSi fuel listed a w (fun _ h => h) (Region.free_spec hi hf) (by simpa using hr) hy hw h
  rcases Nat.lt_or_ge j ops.size with hj | hj
  · have := List.all_eq_true.1 hm j (List.mem_range.2 hj)
    rw [hl, hn, Bool.false_or, Bool.false_or] at this
    exact hC j w this hS
  · unfold waits at hn
    rw [Array.getElem?_eq_none hj] at hn
    cases hn
theorem J_all {rs : List Nat} {fuel : Nat} {listed : Array Bool} {a : Act} {w : World} (hr : Region.ready md ops listed = rs) (hne : rs ≠ [])
    (h : ∀ i ∈ rs, wpOp P ops Q i (fun a' w' => S i w' ∧ wpAnyJ P md ops Q S fuel (listed.setIfInBounds i true) a' w') a w) : wpAnyJ P md ops Q S (fuel + 1) listed a w :=
  ⟨fun h0 => absurd (hr ▸ h0) hne, hr ▸ h⟩
theorem J_one {i : Nat} {o : Oper} {K : Act → World → Prop} {a : Act} {w : World} (ho : ops[i]? = some o) (hg : o.guard = none) (h : o.wp P a w K Q) : wpOp P ops Q i K a w := by
  unfold wpOp
  rw [ho]
  simp only
  rw [if_pos (by simp [Region.wanted, hg])]
  exact .inl h
theorem J_done {listed : Array Bool} {a : Act} {w : World} (hr : Region.ready md ops listed = []) (h : Q .normal a w) : wpAnyJ P md ops Q S 0 listed a w := ⟨hr, h⟩
end
theorem J_oneH {P : Program} {ops : Array Oper} {Q : Exit → Act → World → Prop} {i : Nat} {o : Oper} {K : Act → World → Prop} {a : Act} {w : World} (ho : ops[i]? = some o) (hg : o.guard = none) (h : ∀ K' : Act → World → Prop, Hid (∀ a w, K a w → K' a w) → o.wp P a w K' Q) : wpOp P ops Q i K a w := J_one ho hg (h K (Lib.hid fun _ _ x => x))
end Go.Proofs.Ytmgkenbfjlahpaa
