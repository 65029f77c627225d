/-
  Ayw: Ayj, Enw, Ayw.
-/
import Derived.Test.YtlckgkpgllhpbaaDoorBase
import Derived.Deep.RegionHeld3
import Derived.Lib.Hide
import Derived.Test.YtlckgkpgllhpbaaDoorAbk
import Derived.Test.YtlckgkpgllhpbaaDoorArq
/- Ayj -/
namespace Go.Proofs.YtlckgkpgllhpbaaDoor
open Go.RowKit Go.Lib

/-- Operation j waits for operation i (or there is none). -/
def waits (md : Region.Mode) (ops : Array Oper) (i j : Nat) : Bool := match ops[j]? with | none => true | some o => o.after.any fun e => Region.binds md e && e.on == i
/-- Whatever order is picked from here on; behind operation i the condition S i holds. -/
def wpAnyJ (P : Program) (md : Region.Mode) (ops : Array Oper) (Q : Exit → Act → World → Prop) (S : Nat → World → Prop) : Nat → Array Bool → Act → World → Prop
  | 0, listed, a, w => Region.ready md ops listed = [] ∧ Q .normal a w
  | fuel + 1, listed, a, w =>
    (Region.ready md ops listed = [] → Q .normal a w) ∧
    ∀ i ∈ Region.ready md ops listed, wpOp P ops Q i (fun a' w' => S i w' ∧ wpAnyJ P md ops Q S fuel (listed.setIfInBounds i true) a' w') a w
section
variable {P : Program} {ops : Array Oper} {Q : Exit → Act → World → Prop} {md : Region.Mode} {S : Nat → World → Prop}
theorem wpAny_of_J : ∀ (fuel : Nat) (listed : Array Bool) (a : Act) (w : World), wpAnyJ P md ops Q S fuel listed a w → wpAny P md ops Q fuel listed a w
  | 0, _, _, _, h => h
  | fuel + 1, _, _, _, h => ⟨h.1, fun i hi => wpOp_mono (fun a' w' h' => wpAny_of_J fuel _ a' w' h'.2) (h.2 i hi)⟩
/-- An operation that yields its value wherever C holds may be taken first, if C is held behind all that does not wait for it. -/
theorem J_first {i : Nat} {oi : Oper} {v : Value} {C : World → Prop} {listed0 : Array Bool} (hi : ops[i]? = some oi) (hs : Region.noSelect ops = true)
    (hQ : ∀ c a w, Q (.panic c) (a.put oi.dst v) w → Q (.panic c) a w) (hC : ∀ j w, listed0.getD j true = false → waits md ops i j = false → S j w → C w) (hSi : ∀ w, C w → S i w) :
    ∀ (fuel : Nat) (listed : Array Bool) (a : Act) (w : World), (∀ j, listed.getD j true = false → listed0.getD j true = false) → (∀ j oj, ops[j]? = some oj → j ≠ i → listed.getD j true = false → (∀ e ∈ oj.after, Region.binds md e = true → e.on ≠ i) → oi.apart ops oj = true) →
      i ∈ Region.ready md ops listed → YieldsIf P ops C oi v a → C w → wpAnyJ P md ops Q S fuel (listed.setIfInBounds i true) (a.put oi.dst v) w → wpAnyJ P md ops Q S (fuel + 1) listed a w
  | fuel, listed, a, w, hL, hf, hr, hy, hw, H => by
    refine ⟨fun h => (by rw [h] at hr; cases hr), fun j hj => ?_⟩
    by_cases hji : j = i
    · subst hji
      exact hy.wpOp hi hw ⟨hSi w hw, H⟩
    cases fuel with
    | zero =>
      have := ready_mono hj hji
      rw [H.1] at this
      cases this
    | succ fuel =>
      obtain ⟨hun, oj, hoj, hall⟩ := mem_ready.1 hj
      have hun0 := (mem_ready.1 hr).1
      have hno : ∀ e ∈ oj.after, Region.binds md e = true → e.on ≠ i := fun e he hb heq => by
        have h1 := hall e he hb
        rw [heq] at h1
        rcases Nat.lt_or_ge i listed.size with h' | h'
        · simp [h'] at hun0 h1; rw [hun0] at h1; cases h1
        · simp [Array.getElem?_eq_none h'] at h1
      have hwt : waits md ops i j = false := by
        unfold waits
        rw [hoj]
        simp only [Array.any_eq_false]
        intro x hx
        simp only [Bool.and_eq_true, beq_iff_eq, not_and]
        exact fun hb => hno _ (Array.getElem_mem hx) hb
      have h2 := wpOp_putIf hoj (hf j oj hoj hji hun hno) (fun cs b => Region.noSelect_spec hs i oi cs b hi) (fun cs b => Region.noSelect_spec hs j oj cs b hoj) hQ hy (H.2 j (ready_mono hj hji))
      refine wpOp_mono (fun a' w' h3 => ⟨h3.2.1, J_first hi hs hQ hC hSi fuel (listed.setIfInBounds j true) a' w' (fun k hk => hL k (by
        by_cases hjk : j = k
        · exact hjk ▸ hun
        · rwa [getD_set_ne true hjk] at hk)) (fun k ok hk hki hu hn => hf k ok hk hki ?_ hn) (ready_mono hr (Ne.symm hji)) h3.1 (hC j w' (hL j hun) hwt h3.2.1) ?_⟩) h2
      · by_cases hjk : j = k
        · exact hjk ▸ hun
        · rwa [getD_set_ne true hjk] at hu
      · rw [Array.setIfInBounds_comm _ _ hji]
        exact h3.2.2
theorem J_take {i : Nat} {oi : Oper} {v : Value} {fuel : Nat} {listed : Array Bool} {a : Act} {w : World} (C : World → Prop) (m : Nat → Bool) (hi : ops[i]? = some oi) (hs : Region.noSelect ops = true) (hf : Region.free md ops listed i = true) (hr : (Region.ready md ops listed).contains i = true)
    (hm : ((List.range ops.size).all fun j => listed.getD j true || (waits md ops i j || m j)) = true) (hQ : ∀ c a w, Q (.panic c) (a.put oi.dst v) w → Q (.panic c) a w) (hC : ∀ j w, m j = true → S j w → C w) (hSi : ∀ w, C w → S i w) (hw : C w) (hy : YieldsIf P ops C oi v a)
    (h : wpAnyJ P md ops Q S fuel (listed.setIfInBounds i true) (a.put oi.dst v) w) : wpAnyJ P md ops Q S (fuel + 1) listed a w := by
  refine J_first (listed0 := listed) hi hs hQ (fun j w hl hn hS => ?_) hSi fuel listed a w (fun _ h => h) (Region.free_spec hi hf) (by simpa using hr) hy hw h
  rcases Nat.lt_or_ge j ops.size with hj | hj
  · have := List.all_eq_true.1 hm j (List.mem_range.2 hj)
    rw [hl, hn, Bool.false_or, Bool.false_or] at this
    exact hC j w this hS
  · unfold waits at hn
    rw [Array.getElem?_eq_none hj] at hn
    cases hn
theorem J_all {rs : List Nat} {fuel : Nat} {listed : Array Bool} {a : Act} {w : World} (hr : Region.ready md ops listed = rs) (hne : rs ≠ [])
    (h : ∀ i ∈ rs, wpOp P ops Q i (fun a' w' => S i w' ∧ wpAnyJ P md ops Q S fuel (listed.setIfInBounds i true) a' w') a w) : wpAnyJ P md ops Q S (fuel + 1) listed a w :=
  ⟨fun h0 => absurd (hr ▸ h0) hne, hr ▸ h⟩
theorem J_one {i : Nat} {o : Oper} {K : Act → World → Prop} {a : Act} {w : World} (ho : ops[i]? = some o) (hg : o.guard = none) (h : o.wp P a w K Q) : wpOp P ops Q i K a w := by
  unfold wpOp
  rw [ho]
  simp only
  rw [if_pos (by simp [Region.wanted, hg])]
  exact .inl h
theorem J_done {listed : Array Bool} {a : Act} {w : World} (hr : Region.ready md ops listed = []) (h : Q .normal a w) : wpAnyJ P md ops Q S 0 listed a w := ⟨hr, h⟩
end
theorem J_oneH {P : Program} {ops : Array Oper} {Q : Exit → Act → World → Prop} {i : Nat} {o : Oper} {K : Act → World → Prop} {a : Act} {w : World} (ho : ops[i]? = some o) (hg : o.guard = none) (h : ∀ K' : Act → World → Prop, Hid (∀ a w, K a w → K' a w) → o.wp P a w K' Q) : wpOp P ops Q i K a w := J_one ho hg (h K (Lib.hid fun _ _ x => x))
end Go.Proofs.YtlckgkpgllhpbaaDoor

/- Enw -/
namespace Go.Proofs.YtlckgkpgllhpbaaDoor
open Go.RowKit

set_option maxRecDepth 8000 in
set_option maxHeartbeats 6400000 in
theorem get_anyO (A : Option Addr) (b : List UInt8) (c lo hi : Nat) (w : World) (h : Rd w lo hi A b) (hh : hi ≤ w.heap.size) (hl : b.length ≤ 140737488355328) (v : Int) (ms : List Mem) (fin : RSt) (hg : getR b = (v, ms, fin)) :
    Calls Tryd.prog 91 #[.slice A b.length c] w fun e w' => (∃ A' c', e = .returned (.tuple #[.agg #[.int .i64 v, .slice A' ms.length c'], .int .i64 0]) ∧ ms.length ≤ c' ∧ c' ≤ maxLen ∧ w'.ownsRow w.heap.size 106 4 (.slice A' ms.length c') ms.length (mv ms) ∧ Fr NoB w w' ∧ (rWhole fin = true ∧ chk v ms = 0)) ∨ (e = .returned (.tuple #[.agg #[.int .i64 0, .slice none 0 0], .int .i64 4]) ∧ Fr NoB w w' ∧ ¬ (rWhole fin = true ∧ chk v ms = 0)) := by
  obtain ⟨e1, e2⟩ := Prod.mk.injEq _ _ _ _ ▸ hg
  obtain ⟨e2, e3⟩ := Prod.mk.injEq _ _ _ _ ▸ e2
  have hrc := rCount_range (rInt (some b)).2 7 (by omega)
  obtain ⟨n, hn⟩ : ∃ n : Nat, (rCount (rInt (some b)).2 7).1 = (n : Int) := ⟨((rCount (rInt (some b)).2 7).1).toNat, by omega⟩
  obtain ⟨s1, hs1⟩ : ∃ s1, (rCount (rInt (some b)).2 7).2 = s1 := ⟨_, rfl⟩
  obtain ⟨s0, hs0⟩ : ∃ s0, (rInt (some b)).2 = s0 := ⟨_, rfl⟩
  have hn7 : (n : Int) ≤ 7 := by omega
  have hm : (rdMems n s1).1 = ms := by rw [← e2]; simp only [getR] at *; rw [hn, hs1]; rfl
  have hst : (rdMems n s1).2 = fin := by rw [← e3]; simp only [getR] at *; rw [hn, hs1]; rfl
  have hv : (rInt (some b)).1 = v := e1
  rw [hs0] at hn hs1
  have HR := Lib.hid h
  have hI := fun W lo p (r : Rdr W lo p (some b)) => rInt_calls lo p (some b) W r
  rw [hv, hs0] at hI
  have HI := Lib.hid hI
  have hC := fun W lo p (r : Rdr W lo p s0) => rCount_calls lo p s0 7 W r
  rw [hn, hs1] at hC
  have HC := Lib.hid hC
  have HM := Lib.hid hm
  have HST := Lib.hid hst
  clear h hI hC hm hst hrc hs0 hs1 hn hv e1 e2 e3 hg
  obtain ⟨i0, hi0, hz0, hz1, hz2⟩ := info_parts info_mem
  go_enter Tryd.func91, Tryd.ntmps91
  go_wp2_with (fail)
  have F0 := Lib.hid ((Fr.refl NoB w).alloc (.cells #[.int .i64 0, .slice none 0 0] 40))
  have HRV := Lib.hid (heap_alloc_new w (.cells #[.int .i64 0, .slice none 0 0] 40))
  generalize w.alloc (.cells #[.int .i64 0, .slice none 0 0] 40) = wb at F0 HRV ⊢
  refine (rNew_calls A b c lo hi wb (HR.out.fr F0.out hh (fun _ _ _ x => x)) hl).mono ?_
  rintro e w1 ⟨p, rfl, q1, q2, q3, -⟩
  have Q1 := Lib.hid q1
  have Q2 := Lib.hid q2
  have Q3 := Lib.hid q3
  clear q1 q2 q3 HR
  go_wp2_with (fail)
  refine (HI.out _ _ _ Q2.out).mono ?_
  rintro e w2 ⟨rfl, a2, f2, -⟩
  have HA2 := Lib.hid a2
  have F2 := Lib.hid (Q3.out.upE f2 (fun k hk => by simp only [OneB] at hk; have := Q1.out; omega))
  clear a2 f2 Q2 HI
  go_wp2_with (fail)
  have t3 : GeW wb (w2.alloc (.cells #[.int .i64 v, .slice none 0 0] 40)) wb.heap.size p w2.heap.size v (.slice none 0 0) [] s0 :=
    ⟨HA2.out.fr ((Fr.refl NoB w2).alloc _) (fun _ _ _ x => x) Q1.out, F2.out.alloc _, Nat.le_refl _, Q1.out, HA2.out.lt, heap_alloc_new w2 _, World.ownsRow_nil _ _ _ _⟩
  generalize w2.alloc (.cells #[.int .i64 v, .slice none 0 0] 40) = w3 at t3 ⊢
  generalize w2.heap.size = E at t3 ⊢
  refine (HC.out _ _ _ t3.a).mono ?_
  rintro e w4 ⟨rfl, a4, f4, -⟩
  have T4 := Lib.hid (t3.read a4 f4)
  clear t3 a4 f4 HC HA2 F2 e2 Q1 Q3
  go_wp2
  go_loopw [16] (fun i wr => ∃ (k : Nat) (V : Value), k ≤ n ∧ i = .int .i64 (k : Int) ∧ GeW wb wr wb.heap.size p E v V (rdMems k s1).1 (rdMems k s1).2) (fun i _ => n - (intOf i).toNat)
  case atStart => exact ⟨0, _, Nat.zero_le _, rfl, T4.out⟩
  case round =>
    obtain ⟨k, V, hk, rfl, ht⟩ := hrel
    have TK := Lib.hid ht
    clear ht T4
    by_cases hlt : k < n
    · have hki : (k : Int) < (n : Int) := by omega
      have hll := rdMems_len k s1
      have hstep : rdMems (k + 1) s1 = ((rdMems k s1).1 ++ [(rdMem (rdMems k s1).2).1], (rdMem (rdMems k s1).2).2) := rfl
      generalize (rdMems k s1).1 = l at TK hll hstep
      generalize (rdMems k s1).2 = st at TK hstep
      obtain ⟨x1, t1, g1⟩ : ∃ x t, rCount st 7 = (x, t) := ⟨_, _, rfl⟩
      obtain ⟨x2, t2, g2⟩ : ∃ x t, rCount t1 2 = (x, t) := ⟨_, _, rfl⟩
      obtain ⟨x3, t3, g3⟩ : ∃ x t, rCount t2 1000 = (x, t) := ⟨_, _, rfl⟩
      obtain ⟨x4, t4, g4⟩ : ∃ x t, rCount t3 7 = (x, t) := ⟨_, _, rfl⟩
      have hmem : rdMem st = ((x1, x2, x3, x4), t4) := by simp [rdMem, g1, g2, g3, g4]
      rw [hmem] at hstep
      have r2 := rCount_range t1 2 (by omega)
      rw [g2] at r2
      simp only at r2
      have hx2 : x2 % 256 = x2 := by omega
      have hC1 := fun W (r : Rdr W wb.heap.size p st) => rCount_calls wb.heap.size p st 7 W r
      have hC2 := fun W (r : Rdr W wb.heap.size p t1) => rCount_calls wb.heap.size p t1 2 W r
      have hC3 := fun W (r : Rdr W wb.heap.size p t2) => rCount_calls wb.heap.size p t2 1000 W r
      have hC4 := fun W (r : Rdr W wb.heap.size p t3) => rCount_calls wb.heap.size p t3 7 W r
      rw [g1] at hC1
      rw [g2] at hC2
      rw [g3] at hC3
      rw [g4] at hC4
      have HC1 := Lib.hid hC1
      have HC2 := Lib.hid hC2
      have HC3 := Lib.hid hC3
      have HC4 := Lib.hid hC4
      have HSTEP := Lib.hid hstep
      have HLL := Lib.hid hll
      clear hC1 hC2 hC3 hC4 hstep hmem g1 g2 g3 g4 r2 hll
      go_wp2_with (fail)
      refine (HC1.out _ TK.out.a).mono ?_
      rintro e w5 ⟨rfl, a5, f5, -⟩
      have T5 := Lib.hid (TK.out.read a5 f5)
      have HBV := Lib.hid (fun g (hg : V.ownBlock = some g) => Nat.ne_of_lt (T5.out.own.lt g hg).2)
      have HEK := Lib.hid (Lib.lt_of_heap T5.out.bx)
      clear a5 f5 TK HC1
      go_wp2_with (fail)
      have hmk := heap_alloc_new w5 (.cells #[.int .i64 x1, .int .u8 0, .int .i64 0, .int .i64 0] 106)
      have T5b := Lib.hid (T5.out.keep ((Fr.refl NoB w5).alloc (.cells #[.int .i64 x1, .int .u8 0, .int .i64 0, .int .i64 0] 106)))
      generalize w5.alloc (.cells #[.int .i64 x1, .int .u8 0, .int .i64 0, .int .i64 0] 106) = w5b at hmk T5b ⊢
      generalize w5.heap.size = K at hmk HBV HEK ⊢
      refine (HC2.out _ T5b.out.a).mono ?_
      rintro e w6 ⟨rfl, a6, f6, -⟩
      have T6 := Lib.hid (T5b.out.read a6 f6)
      have hKp : ¬ OneB p K := by have := HEK.out; have := T5b.out.pE; simp only [OneB]; omega
      have hm6 := f6.at_ hmk hKp
      have HM6 := Lib.hid hm6
      have y1 := (cells_of hm6 1).1
      have z1 := (cells_of hm6 1).2
      simp only [List.getElem?_toArray, List.getElem?_cons_zero, List.getElem?_cons_succ] at y1
      clear a6 f6 hmk T5b HC2 hm6
      go_wp2_with (fail)
      have T6b := Lib.hid (T6.out.set K 1 HEK.out HBV.out (.int .u8 x2))
      have hm6b : (w6.setCell ⟨K, 1, none⟩ (.int .u8 x2)).heap[K]? = some (.cells #[.int .i64 x1, .int .u8 x2, .int .i64 0, .int .i64 0] 106 (0, 0)) := by rw [heap_set HM6.out]; rfl
      generalize w6.setCell ⟨K, 1, none⟩ (.int .u8 x2) = w6b at hm6b T6b ⊢
      clear T6 HM6 y1 z1
      refine (HC3.out _ T6b.out.a).mono ?_
      rintro e w7 ⟨rfl, a7, f7, -⟩
      have T7 := Lib.hid (T6b.out.read a7 f7)
      have hm7 := f7.at_ hm6b hKp
      clear a7 f7 T6b hm6b HC3
      go_wp2_with (fail)
      refine (HC4.out _ T7.out.a).mono ?_
      rintro e w8 ⟨rfl, a8, f8, -⟩
      have T8 := Lib.hid (T7.out.read a8 f8)
      have hm8 := f8.at_ hm7 hKp
      clear a8 f8 T7 hm7 HC4
      obtain ⟨AV, cV, hVe, _, _⟩ := own_form4 T8.out.own
      subst hVe
      have y2 := (cells_of hm8 2).1
      have z2 := (cells_of hm8 2).2
      have y3 := (cells_of hm8 3).1
      have z3 := (cells_of hm8 3).2
      have T9 := Lib.hid ((T8.out.set K 2 HEK.out HBV.out (.int .i64 x3)).set K 3 HEK.out HBV.out (.int .i64 x4))
      have hm9 : ((w8.setCell ⟨K, 2, none⟩ (.int .i64 x3)).setCell ⟨K, 3, none⟩ (.int .i64 x4)).heap[K]? = some (.cells #[.int .i64 x1, .int .u8 x2, .int .i64 x3, .int .i64 x4] 106 (0, 0)) := by rw [heap_set (heap_set hm8 _) _]; rfl
      have u0 := (cells_of hm9 0).1
      have u1 := (cells_of hm9 1).1
      have u2 := (cells_of hm9 2).1
      have u3 := (cells_of hm9 3).1
      have uE := (cells_of T9.out.bx 1).1
      simp only [List.getElem?_toArray, List.getElem?_cons_zero, List.getElem?_cons_succ] at y2 y3 u0 u1 u2 u3 uE
      have hsrc : ∀ (t : TypeId) (j : Nat) (u : Value), (mv [(x1, x2, x3, x4)])[j]? = some u → (((w8.setCell ⟨K, 2, none⟩ (.int .i64 x3)).setCell ⟨K, 3, none⟩ (.int .i64 x4)).alloc (.cells #[.int .i64 x1, .int .u8 x2, .int .i64 x3, .int .i64 x4] t)).cell? ((⟨w8.heap.size, 0, none⟩ : Addr).add j) = some u := fun t j u hj => by
        obtain ⟨ad, h1, h2⟩ := src_block ((w8.setCell ⟨K, 2, none⟩ (.int .i64 x3)).setCell ⟨K, 3, none⟩ (.int .i64 x4)) #[.int .i64 x1, .int .u8 x2, .int .i64 x3, .int .i64 x4] t (mv [(x1, x2, x3, x4)]) rfl
        have hsz : ((w8.setCell ⟨K, 2, none⟩ (.int .i64 x3)).setCell ⟨K, 3, none⟩ (.int .i64 x4)).heap.size = w8.heap.size := by simp [World.setCell]
        rw [hsz] at h1
        cases h1
        exact h2 j u hj
      have HSRC := Lib.hid hsrc
      clear hm8 hm9 T8 hsrc
      go_wp2_with (at_builtin; go_loud (refine wpList_append_src _ rfl _ _ 26 rfl (E + 1) 106 i0 (.agg #[.int .i64 0, .int .u8 0, .int .i64 0, .int .i64 0]) 4 32 Tryd.underlying26 hi0 hz0 hz1 hz2 rfl (by decide) (.slice AV l.length cV) l.length (mv l) rfl (T9.out.own.alloc _) _ 1 _ (mv [(x1, x2, x3, x4)]) rfl rfl (fun _ => ⟨_, rfl, HSRC.out _⟩) (mv_one _) (by have := HLL.out; unfold maxLen; omega) (by have := HLL.out; omega) (by have := Lib.lt_of_heap T9.out.bx; simp at this ⊢; omega) ?_))
      intro v' wA hA
      obtain ⟨A2, c2, hv2, _, _⟩ := own_form4 hA.own
      subst hv2
      have T10 := Lib.hid (T9.out.push hA)
      have hold := T9.out.old hA
      have q1 := (cells_of hold 1).1
      have q2 := (cells_of hold 1).2
      simp only [List.getElem?_toArray, List.getElem?_cons_zero, List.getElem?_cons_succ] at q1
      clear hA hold T9 HSRC u0 u1 u2 u3 uE y2 y3 z2 z3
      go_wp2
      go_roundw
      case rel => exact ⟨k + 1, _, by omega, by go_num, by rw [HSTEP.out]; exact T10.out⟩
      case measure => simp [intOf]; omega
    · obtain rfl : k = n := by omega
      have ht := TK.out
      rw [HM.out, HST.out] at ht
      obtain ⟨AV, cV, hVe, hl1, hl2⟩ := own_form4 ht.own
      subst hVe
      have TE := Lib.hid ht
      have hrdm := own_rdm ht.own
      have HOWN := Lib.hid ht.own
      have hml : ms.length = k := by rw [← HM.out, rdMems_len]
      have hwh := rWhole_calls wb.heap.size p fin wr ht.a
      have hcc := check_calls v AV ms cV (E + 1) wr.heap.size wr hrdm (Nat.le_refl _) (by omega)
      have HCC := Lib.hid hcc
      have HRD := Lib.hid hrdm
      have b0 := (cells_of ht.bx 0).1
      have b1 := (cells_of ht.bx 1).1
      simp only [List.getElem?_toArray, List.getElem?_cons_zero, List.getElem?_cons_succ] at b0 b1
      have HwE : Hid (w.heap.size < E) := by
        have h1 := TE.out.lo1
        have h2 := TE.out.lo2
        have h3 := TE.out.pE
        have h4 := Lib.lt_of_heap HRV.out
        show w.heap.size < E
        omega
      clear ht hcc hrdm TK HM HST hlt hk hi0 hz0 hz1 hz2 hml
      cases hW : rWhole fin
      · rw [hW] at hwh
        have HWH := Lib.hid hwh
        have hres := TE.out.fr.at_ HRV.out (fun x => x)
        have HRES := Lib.hid hres
        have r0 := (cells_of hres 0).1
        have r1 := (cells_of hres 1).1
        have z0 := (cells_of hres 0).2
        have z1 := (cells_of hres 1).2
        simp only [List.getElem?_toArray, List.getElem?_cons_zero, List.getElem?_cons_succ] at r0 r1
        have HWF := Lib.hid hW
        clear hwh hres hW HCC
        go_wp2_with (fail)
        refine HWH.out.mono ?_
        rintro e w5 ⟨rfl, rfl⟩
        go_wp2
        refine bodyPost_ret (v := .tuple #[.agg #[.int .i64 0, .slice none 0 0], .int .i64 4]) (results_row_tmp (fn := Tryd.f91) (p := 2) (u := 3) (ty := 40) (by kernel_rfl) _ _ w.heap.size 40 _ _ _ rfl (two_set HRES.out) Tryd.underlying40 rfl (by kernel_rfl)) rfl (.inr ⟨rfl, ?_, fun hx => by have h1 := hx.1; first | cases h1 | (rw [HWF.out] at h1; cases h1)⟩)
        exact ((F0.out.then TE.out.fr).setCell (p := ⟨w.heap.size, 0, none⟩) (fun k => absurd k (by simp)) _).setCell (p := ⟨w.heap.size, 1, none⟩) (fun k => absurd k (by simp)) _
      · rw [hW] at hwh
        have HWH := Lib.hid hwh
        have HWF := Lib.hid hW
        clear hwh hW
        go_wp2_with (fail)
        refine HWH.out.mono ?_
        rintro e w5 ⟨rfl, rfl⟩
        go_wp2_with (fail)
        refine HCC.out.mono ?_
        rintro e w9 ⟨rfl, f9⟩
        have T9 := Lib.hid (TE.out.keep f9)
        have hres := T9.out.fr.at_ HRV.out (fun x => x)
        have HRES := Lib.hid hres
        have c0 := (cells_of T9.out.bx 0).1
        have c1 := (cells_of T9.out.bx 1).1
        have r0 := (cells_of hres 0).1
        have r1 := (cells_of hres 1).1
        have z0 := (cells_of hres 0).2
        have z1 := (cells_of hres 1).2
        simp only [List.getElem?_toArray, List.getElem?_cons_zero, List.getElem?_cons_succ] at c0 c1 r0 r1
        have F9 := Lib.hid f9
        clear f9 hres HCC HWH
        by_cases hck : chk v ms = 0
        · have HCK := Lib.hid hck
          rw [hck]
          clear hck
          go_wp2
          refine bodyPost_ret (v := .tuple #[.agg #[.int .i64 v, .slice AV ms.length cV], .int .i64 0]) (results_row_tmp (fn := Tryd.f91) (p := 2) (u := 3) (ty := 40) (by kernel_rfl) _ _ w.heap.size 40 _ _ _ rfl (two_set HRES.out) Tryd.underlying40 rfl (by kernel_rfl)) rfl (.inl ⟨AV, cV, rfl, hl1, hl2, ?_, ?_, by first | rfl | exact HWF.out, by first | rfl | exact HCK.out⟩)
          · have hf : Fr (OneB w.heap.size) wr ((w9.setCell ⟨w.heap.size, 0, none⟩ (.int .i64 v)).setCell ⟨w.heap.size, 1, none⟩ (.slice AV ms.length cV)) := ((F9.out.no (M := OneB w.heap.size)).setCell (p := ⟨w.heap.size, 0, none⟩) (fun _ => rfl) _).setCell (p := ⟨w.heap.size, 1, none⟩) (fun _ => rfl) _
            exact own_low (own_by HOWN.out hf (fun g hg hx => by have h1 := (HOWN.out.lt g hg).1; have h2 := HwE.out; simp only [OneB] at hx; omega)) (by have := HwE.out; omega)
          · exact (((F0.out.then TE.out.fr).then F9.out).setCell (p := ⟨w.heap.size, 0, none⟩) (fun k => absurd k (by simp)) _).setCell (p := ⟨w.heap.size, 1, none⟩) (fun k => absurd k (by simp)) _
        · have hckb : (chk v ms != 0) = true := by simp [hck]
          have HN := Lib.hid hck
          clear hck
          go_wp2
          refine bodyPost_ret (v := .tuple #[.agg #[.int .i64 0, .slice none 0 0], .int .i64 4]) (results_row_tmp (fn := Tryd.f91) (p := 2) (u := 3) (ty := 40) (by kernel_rfl) _ _ w.heap.size 40 _ _ _ rfl (two_set HRES.out) Tryd.underlying40 rfl (by kernel_rfl)) rfl (.inr ⟨rfl, ?_, fun hx => HN.out hx.2⟩)
          exact (((F0.out.then TE.out.fr).then F9.out).setCell (p := ⟨w.heap.size, 0, none⟩) (fun k => absurd k (by simp)) _).setCell (p := ⟨w.heap.size, 1, none⟩) (fun k => absurd k (by simp)) _


theorem get_own (A : Option Addr) (b : List UInt8) (c lo hi : Nat) (w : World) (h : Rd w lo hi A b) (hh : hi ≤ w.heap.size) (hl : b.length ≤ 140737488355328) :
    Calls Tryd.prog 91 #[.slice A b.length c] w fun e w' => ∃ A' c', e = .returned (.tuple #[.agg #[.int .i64 (getV b).1, .slice A' (getV b).2.1.length c'], .int .i64 (getV b).2.2]) ∧ w'.ownsRow w.heap.size 106 4 (.slice A' (getV b).2.1.length c') (getV b).2.1.length (mv (getV b).2.1) ∧ Fr NoB w w' := by
  obtain ⟨v, ms, fin, hg⟩ : ∃ v ms fin, getR b = (v, ms, fin) := ⟨_, _, _, rfl⟩
  refine (get_anyO A b c lo hi w h hh hl v ms fin hg).mono ?_
  rintro e w' (⟨A', c', rfl, h1, h2, h3, h4, h5⟩ | ⟨rfl, h4, h5⟩)
  · obtain ⟨e1, e2, e3⟩ := getV_of (b := b) (v := v) (ms := ms) (z := 0) (.inl ⟨by unfold getE; rw [hg]; exact if_pos h5, rfl⟩)
    subst e1 e2
    exact ⟨A', c', by rw [← e3], h3, h4⟩
  · obtain ⟨e1, e2, e3⟩ := getV_of (b := b) (v := 0) (ms := []) (z := 4) (.inr ⟨by unfold getE; rw [hg]; exact if_neg h5, rfl, rfl, rfl⟩)
    exact ⟨none, 0, by rw [← e1, ← e2, ← e3]; rfl, by rw [← e2]; exact World.ownsRow_nil _ _ _ _, h4⟩
end Go.Proofs.YtlckgkpgllhpbaaDoor

/- Ayw -/
namespace Go.Proofs.YtlckgkpgllhpbaaDoor
open Go.RowKit

theorem held_load {P : Program} {ops : Array Oper} {Q : Exit → Act → World → Prop} {rest : List Oper} {a : Act} {w : World} {ty tp : TypeId} {x : Operand} {dst : Option Tmp} {ps : String} {af : Array Edge} {gd : Option (Nat × Bool)} (h : Held (wpList P ops Q ({ dst := dst, op := .load ty x, type := tp, pos := ps, after := af, guard := gd } :: rest) a w)) : wpList P ops Q ({ dst := dst, op := .load ty x, type := tp, pos := ps, after := af, guard := gd } :: rest) a w := h
/-- A row of one's own. -/
structure RowO where
  v : Value
  e : TypeId
  size : Nat
  n : Nat
  xs : List Value
def RowO.In (x : RowO) (w : World) (base : Nat) : Prop := w.ownsRow base x.e x.size x.v x.n x.xs
def RowO.At (x : RowO) (g : Nat) : Prop := x.v.ownBlock = some g
/-- Rows of one's own, no two in one block. -/
structure Rows (w : World) (base : Nat) (R : List RowO) : Prop where
  own : ∀ x ∈ R, x.In w base
  pair : R.Pairwise fun x y => ∀ g, x.At g → ¬ y.At g
theorem RowO.In.lt {x : RowO} {w : World} {base g : Nat} (h : x.In w base) (hg : x.At g) : base ≤ g ∧ g < w.heap.size := World.ownsRow.lt h g hg
theorem Rows.nil (w : World) (base : Nat) : Rows w base [] := ⟨fun x hx => absurd hx (by simp), List.Pairwise.nil⟩
theorem Rows.fr {M : Nat → Prop} {w w1 : World} {base : Nat} {R : List RowO} (h : Rows w base R) (f : Fr M w w1) (hm : ∀ k, M k → ∀ x ∈ R, ¬ x.At k) : Rows w1 base R :=
  ⟨fun x hx => own_by (h.own x hx) f (fun g hg hM => hm g hM x hx hg), h.pair⟩
theorem Rows.low {w : World} {b b' : Nat} {R : List RowO} (h : Rows w b R) (hb : b' ≤ b) : Rows w b' R := ⟨fun x hx => own_low (h.own x hx) hb, h.pair⟩
theorem Rows.app {w : World} {base c : Nat} {R R' : List RowO} (h : Rows w base R) (h' : Rows w c R') (hb : base ≤ c) (hlt : ∀ x ∈ R, ∀ g, x.At g → g < c) : Rows w base (R' ++ R) :=
  ⟨fun x hx => (List.mem_append.1 hx).elim (fun hx => own_low (h'.own x hx) hb) (h.own x), List.pairwise_append.2 ⟨h'.pair, h.pair, fun x hx y hy g hg hg2 => by
    have h1 := hlt y hy g hg2
    have h2 := ((h'.own x hx).lt hg).1
    omega⟩⟩
theorem Rows.perm {w : World} {base : Nat} {R R' : List RowO} (h : Rows w base R) (hp : R.Perm R') : Rows w base R' :=
  ⟨fun x hx => h.own x (hp.mem_iff.2 hx), (hp.pairwise_iff (fun {_x _y} h g hy hx => h g hx hy)).1 h.pair⟩
theorem Rows.one {w : World} {base : Nat} {x : RowO} (h : x.In w base) : Rows w base [x] := ⟨fun y hy => by rw [List.mem_singleton.1 hy]; exact h, List.pairwise_singleton _ _⟩
theorem Rows.tail {w : World} {base : Nat} {x : RowO} {R : List RowO} (h : Rows w base (x :: R)) : Rows w base R := ⟨fun y hy => h.own y (List.mem_cons_of_mem _ hy), (List.pairwise_cons.1 h.pair).2⟩

/-- A reply that is read: the reader, the reply's box, rows of one's own. -/
structure YW (w0 w : World) (lo pr b : Nat) (st : RSt) (cs : Array Value) (R : List RowO) : Prop where
  a : Rdr w lo pr st
  fr : Fr (OneB pr) w0 w
  bx : w.heap[b]? = some (.cells cs 43 (0, 0))
  rows : Rows w w0.heap.size R
  nb : ∀ x ∈ R, ¬ x.At b
  lo1 : lo ≤ pr
  pl : pr < w0.heap.size
  hb : w0.heap.size ≤ b
section
variable {w0 w w1 : World} {lo pr b : Nat} {st st1 : RSt} {cs : Array Value} {R : List RowO}
theorem YW.far (h : YW w0 w lo pr b st cs R) : ∀ x ∈ R, ¬ x.At pr := fun x hx hg => by have := ((h.rows.own x hx).lt hg).1; have := h.pl; omega
theorem YW.read (h : YW w0 w lo pr b st cs R) (a : Rdr w1 lo pr st1) (f : Fr (OneB pr) w w1) : YW w0 w1 lo pr b st1 cs R :=
  ⟨a, h.fr.then f, f.at_ h.bx (fun e => by have := h.pl; have := h.hb; simp only [OneB] at e; omega), h.rows.fr f (fun k hk x hx => by rw [show k = pr from hk]; exact h.far x hx), h.nb, h.lo1, h.pl, h.hb⟩
theorem YW.keep (h : YW w0 w lo pr b st cs R) (f : Fr NoB w w1) : YW w0 w1 lo pr b st cs R :=
  ⟨h.a.fr f (fun _ _ _ x => x) h.lo1, h.fr.then f.no, f.at_ h.bx (fun x => x), h.rows.fr f (fun _ x => x.elim), h.nb, h.lo1, h.pl, h.hb⟩
theorem YW.set (h : YW w0 w lo pr b st cs R) (i : Nat) (u : Value) : YW w0 (w.setCell ⟨b, i, none⟩ u) lo pr b st (cs.setIfInBounds i u) R := by
  have f : Fr (OneB b) w (w.setCell ⟨b, i, none⟩ u) := (Fr.refl (OneB b) w).setCell (p := ⟨b, i, none⟩) (fun _ => rfl) u
  have h1 := h.pl
  have h2 := h.hb
  exact ⟨h.a.fr f (fun k _ hk hx => by simp only [OneB] at hx; omega) h.lo1, h.fr.trans f (fun k hk hx => by simp only [OneB] at hx; omega), by rw [heap_set h.bx], h.rows.fr f (fun k hk x hx => by rw [show k = b from hk]; exact h.nb x hx), h.nb, h.lo1, h.pl, h.hb⟩
theorem YW.cell (h : YW w0 w lo pr b st cs R) (i : Nat) : w.cell? ⟨b, i, none⟩ = cs[i]? ∧ w.frozen? ⟨b, i, none⟩ = false := cells_of h.bx i
theorem YW.start {wb w7 : World} {lo pr : Nat} {st : RSt} {R : List RowO} (a : Rdr w7 lo pr st) (fr : Fr (OneB pr) wb w7) (cs : Array Value) (o : Obj) (hR : Rows w7 wb.heap.size R) (h1 : lo ≤ pr) (hp : pr < wb.heap.size) : YW wb ((w7.alloc (.cells cs 43)).alloc o) lo pr w7.heap.size st cs R := by
  have f : Fr NoB w7 ((w7.alloc (.cells cs 43)).alloc o) := ((Fr.refl NoB w7).alloc _).alloc _
  exact ⟨a.fr f (fun _ _ _ x => x) h1, fr.then f.no, ((Fr.refl NoB (w7.alloc (.cells cs 43))).alloc o).at_ (heap_alloc_new w7 _) (fun x => x), hR.fr f (fun _ x => x.elim), fun x hx hg => by have := ((hR.own x hx).lt hg).2; omega, h1, hp, fr.size⟩
/-- Some other block that is new is written. -/
theorem YW.other {M : Nat → Prop} (h : YW w0 w lo pr b st cs R) (f : Fr M w w1) (hm : ∀ k, k < w.heap.size → M k → w0.heap.size ≤ k ∧ k ≠ b ∧ ∀ x ∈ R, ¬ x.At k) : YW w0 w1 lo pr b st cs R := by
  have h1 := h.pl
  have h2 := h.a.lt
  exact ⟨h.a.fr (M := fun k => M k ∧ k < w.heap.size) ⟨f.os, f.tape, f.output, f.size, fun k hk hx => f.block k hk (fun hM => hx ⟨hM, hk⟩)⟩ (fun k _ hk hx => by have := (hm k hx.2 hx.1).1; omega) h.lo1, h.fr.trans f (fun k hk hx => by have := (hm k (Nat.lt_of_lt_of_le hk h.fr.size) hx).1; omega), f.at_ h.bx (fun hx => (hm b (Lib.lt_of_heap h.bx) hx).2.1 rfl),
    ⟨fun x hx => own_keep (h.rows.own x hx) (fun g hg => f.block g ((h.rows.own x hx).lt hg).2 (fun hM => (hm g ((h.rows.own x hx).lt hg).2 hM).2.2 x hx hg)), h.rows.pair⟩, h.nb, h.lo1, h.pl, h.hb⟩
/-- New rows come in. -/
theorem YW.plus {R' : List RowO} {c : Nat} (h : YW w0 w lo pr b st cs R) (h' : Rows w c R') (hc : ∀ x ∈ R, ∀ g, x.At g → g < c) (hb : b < c) : YW w0 w lo pr b st cs (R' ++ R) :=
  ⟨h.a, h.fr, h.bx, h.rows.app h' (by have := h.hb; omega) hc, fun x hx => (List.mem_append.1 hx).elim (fun hx hg => by have := ((h'.own x hx).lt hg).1; omega) (h.nb x), h.lo1, h.pl, h.hb⟩
/-- A row is appended to. -/
theorem YW.push {W wA : World} {e size n : Nat} {V V' : Value} {xs ys : List Value} (h : YW w0 w lo pr b st cs (⟨V, e, size, n, xs⟩ :: R)) (fW : Fr NoB w W) (hA : App w0.heap.size e size V (n + 1) ys W V' wA) : YW w0 wA lo pr b st cs (⟨V', e, size, n + 1, ys⟩ :: R) := by
  have hV : ∀ g, V.ownBlock = some g → w0.heap.size ≤ g ∧ g < w.heap.size := fun g hg => RowO.In.lt (h.rows.own _ (List.mem_cons_self)) hg
  have hp := List.pairwise_cons.1 h.rows.pair
  have h0 : YW w0 w lo pr b st cs R := ⟨h.a, h.fr, h.bx, h.rows.tail, fun x hx => h.nb x (List.mem_cons_of_mem _ hx), h.lo1, h.pl, h.hb⟩
  have h1 := (h0.keep fW).other hA.fr (fun k hk hx => ⟨(hV k hx).1, fun e => h.nb _ (List.mem_cons_self) (by rw [← e]; exact hx), fun x hx2 hg => hp.1 x hx2 k hx hg⟩)
  have hV' : ∀ g, V'.ownBlock = some g → V.ownBlock = some g ∨ W.heap.size = g := fun g hg => by
    rcases hA.at_ with e | e
    · exact .inl (e ▸ hg)
    · rw [e] at hg; exact .inr (by injection hg)
  refine ⟨h1.a, h1.fr, h1.bx, ⟨fun x hx => ?_, List.pairwise_cons.2 ⟨fun x hx g hg hg2 => ?_, h1.rows.pair⟩⟩, fun x hx hg => ?_, h1.lo1, h1.pl, h1.hb⟩
  · rcases List.mem_cons.1 hx with rfl | hx
    · exact hA.own
    · exact h1.rows.own x hx
  · rcases hV' g hg with e | e
    · exact hp.1 x hx g e hg2
    · have := (RowO.In.lt (h0.rows.own x hx) hg2).2
      have := fW.size
      omega
  · rcases List.mem_cons.1 hx with rfl | hx
    · rcases hV' b hg with e | e
      · exact h.nb _ (List.mem_cons_self) e
      · have := Lib.lt_of_heap h.bx
        have := fW.size
        omega
    · exact h1.nb x hx hg
end
def setsA (cs : Array Value) : Nat → List Value → Array Value
  | _, [] => cs
  | o, v :: r => setsA (cs.setIfInBounds o v) (o + 1) r
theorem YW.sets {w0 : World} {lo pr b : Nat} {st : RSt} {R : List RowO} (vs : List Value) : ∀ {w : World} {cs : Array Value} (o : Nat), YW w0 w lo pr b st cs R → YW w0 (w.setCells b o vs) lo pr b st (setsA cs o vs) R := by
  induction vs with
  | nil => intro w cs o h; exact h
  | cons v r ih => intro w cs o h; exact ih (o + 1) (h.set o v)
theorem YW.there {w0 w : World} {lo pr b : Nat} {st : RSt} {cs : Array Value} {R : List RowO} (h : YW w0 w lo pr b st cs R) (o n : Nat) (hn : o + n ≤ cs.size) : w.there b o n := fun j hj => by
  have h1 := h.cell (o + j)
  refine ⟨?_, h1.2⟩
  rw [h1.1, Array.getElem?_eq_getElem (by omega)]
  rfl
theorem YW.perm {w0 w : World} {lo pr b : Nat} {st : RSt} {cs : Array Value} {R R' : List RowO} (h : YW w0 w lo pr b st cs R) (hp : R.Perm R') : YW w0 w lo pr b st cs R' :=
  ⟨h.a, h.fr, h.bx, h.rows.perm hp, fun x hx => h.nb x (hp.mem_iff.2 hx), h.lo1, h.pl, h.hb⟩
/-- An empty row comes in. -/
theorem YW.nil {w0 w : World} {lo pr b : Nat} {st : RSt} {cs : Array Value} {R : List RowO} (h : YW w0 w lo pr b st cs R) (e size : Nat) : YW w0 w lo pr b st cs (⟨.slice none 0 0, e, size, 0, []⟩ :: R) :=
  h.plus (R' := [⟨.slice none 0 0, e, size, 0, []⟩]) (c := w.heap.size) (Rows.one (World.ownsRow_nil _ _ _ _)) (fun x hx _g hg => ((h.rows.own x hx).lt hg).2) (Lib.lt_of_heap h.bx)
/-- Rows that a call has made. -/
theorem YW.made {w0 w w1 : World} {lo pr b : Nat} {st st1 : RSt} {cs : Array Value} {R R' : List RowO} (h : YW w0 w lo pr b st cs R) (h1 : YW w0 w1 lo pr b st1 cs R) (h' : Rows w1 w.heap.size R') : YW w0 w1 lo pr b st1 cs (R' ++ R) :=
  h1.plus h' (fun x hx _g hg => ((h.rows.own x hx).lt hg).2) (Lib.lt_of_heap h.bx)
/-- Texts as cells. -/
def tv (l : List (List UInt8)) : List Value := l.map fun t => .string ⟨t.toArray⟩
theorem tv_append (a b : List (List UInt8)) : tv (a ++ b) = tv a ++ tv b := by simp [tv]
theorem tv_length (a : List (List UInt8)) : (tv a).length = a.length := by simp [tv]
/-- A reply's rows. -/
def rowsY (f : Fy) (p : Py) : List RowO := [⟨.slice p.B f.c.2.length p.d, 106, 4, f.c.2.length, mv f.c.2⟩, ⟨.slice p.L f.ls.length p.n, 9, 1, f.ls.length, tv f.ls⟩, ⟨.slice p.A f.data.length p.c, 5, 1, f.data.length, bv f.data⟩]
def yv : List (Fy × Py) → List Value
  | [] => []
  | x :: l => (ycells x.1 x.2 0).toList ++ yv l
theorem yv_append (a b : List (Fy × Py)) : yv (a ++ b) = yv a ++ yv b := by
  induction a with
  | nil => rfl
  | cons m a ih => simp [yv, ih]
theorem yv_one (x : Fy × Py) : yv [x] = (ycells x.1 x.2 0).toList := by simp [yv]
theorem yv_length (l : List (Fy × Py)) : (yv l).length = l.length * 22 := by
  induction l with
  | nil => rfl
  | cons m l ih => simp [yv, ih, ycells]; omega
theorem yv_get {l : List (Fy × Py)} {i : Nat} {x : Fy × Py} (h : l[i]? = some x) (j : Nat) (v : Value) (hv : (ycells x.1 x.2 0)[j]? = some v) : (yv l)[i * 22 + j]? = some v := by
  induction l generalizing i with
  | nil => simp at h
  | cons y l ih =>
    have hl : (ycells y.1 y.2 0).toList.length = 22 := rfl
    cases i with
    | zero =>
      simp only [List.getElem?_cons_zero, Option.some.injEq] at h
      subst h
      have hj : j < 22 := by have := (Array.getElem?_eq_some_iff.1 hv).1; exact this
      rw [Nat.zero_mul, Nat.zero_add, yv, List.getElem?_append_left (by omega), Array.getElem?_toList]
      exact hv
    | succ i =>
      have h1 : l[i]? = some x := by simpa using h
      rw [yv, List.getElem?_append_right (by rw [hl]; omega), hl, show (i + 1) * 22 + j - 22 = i * 22 + j by omega]
      exact ih h1
/-- All rows of a reply with parts. -/
def rowsYd (f : Fy) (p : Py) (PL : List (Fy × Py)) : List RowO := ⟨.slice p.P PL.length p.e, 43, 22, PL.length, yv PL⟩ :: (PL.reverse.flatMap (fun x => rowsY x.1 x.2) ++ rowsY f p)
/-- What get reads. -/
def rdYd (deep : Bool) (st : RSt) : (Fy × List (Fy × Nat) × Bool) × RSt :=
  let y := rdY0 st; let n := rCount y.2 16
  if deep then let p := rdYs n.1.toNat n.2; ((y.1.1, p.1.1, y.1.2 && p.1.2), p.2) else ((y.1.1, [], y.1.2 && decide (n.1 = 0)), n.2)
theorem rdY0_len (st : RSt) : (rdY0 st).1.1.hd.length = 5 ∧ (rdY0 st).1.1.st.length = 10 := ⟨rdIs_len _ _, rdIs_len _ _⟩
theorem rdIs_lim {st : RSt} (h : RLim st) (n : Nat) : RLim (rdIs n st).2 := by
  induction n with
  | zero => exact h
  | succ n ih => exact rInt_lim ih
theorem rdTs_lim {st : RSt} (h : RLim st) (n : Nat) : RLim (rdTs n st).2 := by
  induction n with
  | zero => exact h
  | succ n ih => exact rBytes_lim ih
theorem rdY0_lim {st : RSt} (h : RLim st) : RLim (rdY0 st).2 := rBytes_lim (rdTs_lim (rCount_lim (rdIs_lim (rBytes_lim (rBytes_lim (rdIs_lim (rByte_lim h) 5))) 10)) _)
theorem rdYp_lim {st : RSt} (h : RLim st) : RLim (rdYp st).2 := rCount_lim (rdY0_lim h)
theorem rdYs_lim {st : RSt} (h : RLim st) (n : Nat) : RLim (rdYs n st).2 := by
  induction n with
  | zero => exact h
  | succ n ih => exact rdYp_lim ih
theorem len5 {l : List Int} (h : l.length = 5) : ∃ a b c d e, l = [a, b, c, d, e] := match l, h with | [a, b, c, d, e], _ => ⟨a, b, c, d, e, rfl⟩
theorem len10 {l : List Int} (h : l.length = 10) : ∃ a b c d e f g i j k, l = [a, b, c, d, e, f, g, i, j, k] := match l, h with | [a, b, c, d, e, f, g, i, j, k], _ => ⟨a, b, c, d, e, f, g, i, j, k, rfl⟩
/-- Numbers, zeros behind them. -/
def ivz (l : List Int) (n : Nat) : Array Value := (l.map (fun x => Value.int .i64 x) ++ List.replicate (n - l.length) (Value.int .i64 0)).toArray
theorem ivz_set (l : List Int) (n : Nat) (x : Int) (h : l.length < n) : (ivz l n).setIfInBounds l.length (.int .i64 x) = ivz (l ++ [x]) n := by
  unfold ivz
  rw [List.setIfInBounds_toArray, List.set_append_right _ _ (by simp), List.length_map, Nat.sub_self, List.map_append, List.append_assoc, List.length_append, List.length_singleton]
  have : n - l.length = (n - (l.length + 1)) + 1 := by omega
  rw [this, List.replicate_succ, List.set_cons_zero]
  rfl
theorem ivz_get (l : List Int) (n : Nat) (h : l.length < n) : (ivz l n)[l.length]? = some (.int .i64 0) := by
  unfold ivz
  rw [List.getElem?_toArray, List.getElem?_append_right (by simp), List.length_map, Nat.sub_self]
  have : n - l.length = (n - l.length - 1) + 1 := by omega
  rw [this, List.replicate_succ, List.getElem?_cons_zero]
end Go.Proofs.YtlckgkpgllhpbaaDoor
