/-
  Gtp: a config's bytes are read back as that config, whatever is read was put so, and the reference's reading comes to the same: in plain Lean.
-/
import Derived.Test.YtljioepkbbbibaaDoorEnp
import Derived.Test.YtljioepkbbbibaaDoorBackp
namespace Go.Proofs.YtljioepkbbbibaaDoor

theorem rCount_front {n m : Int} (h0 : 0 ≤ n) (h1 : n ≤ m) (hm : m ≤ 9223372036854775807) (r : List UInt8) : rCount (some (intB n ++ r)) m = (n, some r) := by
  unfold rCount
  rw [rInt_front (by omega) (by omega)]
  simp only
  rw [if_neg (by omega)]
theorem rCount_back {st : RSt} {m n : Int} {r : List UInt8} (h : rCount st m = (n, some r)) : ∃ l, st = some l ∧ intB n ++ r = l ∧ 0 ≤ n ∧ n ≤ m := by
  unfold rCount at h
  cases st with
  | none => simp [rInt] at h
  | some l =>
    cases hn : rInt (some l) with
    | mk x t =>
      rw [hn] at h
      simp only at h
      split at h
      · cases h
      · cases h
        exact ⟨l, rfl, (rInt_back hn).1, by omega, by omega⟩
theorem rCount_nothing (m : Int) : (rCount none m).2 = none := by
  unfold rCount rInt
  simp only
  split <;> rfl
theorem rdMem_nothing : (rdMem none).2 = none := by
  simp only [rdMem, rCount_nothing]
theorem rdMem_front {m : Mem} (h : GoodM m) (r : List UInt8) : rdMem (some (memB m ++ r)) = (m, some r) := by
  unfold GoodM at h
  have e1 := rCount_front (n := m.1) (m := 7) (by omega) (by omega) (by omega) (intB m.2.1 ++ (intB m.2.2.1 ++ (intB m.2.2.2 ++ r)))
  have e2 := rCount_front (n := m.2.1) (m := 2) (by omega) (by omega) (by omega) (intB m.2.2.1 ++ (intB m.2.2.2 ++ r))
  have e3 := rCount_front (n := m.2.2.1) (m := 1000) (by omega) (by omega) (by omega) (intB m.2.2.2 ++ r)
  have e4 := rCount_front (n := m.2.2.2) (m := 7) (by omega) (by omega) (by omega) r
  have hb : memB m ++ r = intB m.1 ++ (intB m.2.1 ++ (intB m.2.2.1 ++ (intB m.2.2.2 ++ r))) := by simp [memB]
  simp only [rdMem]
  rw [hb, e1, e2, e3, e4]
theorem rdMem_back {st : RSt} {m : Mem} {r : List UInt8} (h : rdMem st = (m, some r)) : ∃ l, st = some l ∧ memB m ++ r = l := by
  obtain ⟨x1, t1, g1⟩ : ∃ x t, rCount st 7 = (x, t) := ⟨_, _, rfl⟩
  obtain ⟨x2, t2, g2⟩ : ∃ x t, rCount t1 2 = (x, t) := ⟨_, _, rfl⟩
  obtain ⟨x3, t3, g3⟩ : ∃ x t, rCount t2 1000 = (x, t) := ⟨_, _, rfl⟩
  obtain ⟨x4, t4, g4⟩ : ∃ x t, rCount t3 7 = (x, t) := ⟨_, _, rfl⟩
  simp only [rdMem, g1, g2, g3, g4] at h
  cases h
  obtain ⟨l3, rfl, e4, -⟩ := rCount_back g4
  obtain ⟨l2, rfl, e3, -⟩ := rCount_back g3
  obtain ⟨l1, rfl, e2, -⟩ := rCount_back g2
  obtain ⟨l0, rfl, e1, -⟩ := rCount_back g1
  refine ⟨l0, rfl, ?_⟩
  rw [← e1, ← e2, ← e3, ← e4]
  simp [memB]
theorem memsB_at {l : List Mem} {k : Nat} {m : Mem} (h : l[k]? = some m) : memsB (l.drop k) = memB m ++ memsB (l.drop (k + 1)) := by
  have hk := List.getElem?_eq_some_iff.1 h
  rw [List.drop_eq_getElem_cons hk.1, hk.2]
  rfl
theorem rdMems_front {l : List Mem} (h : ∀ m ∈ l, GoodM m) (r : List UInt8) (k : Nat) (hk : k ≤ l.length) : rdMems k (some (memsB l ++ r)) = (l.take k, some (memsB (l.drop k) ++ r)) := by
  induction k with
  | zero => simp [rdMems]
  | succ k ih =>
    have hlt : k < l.length := by omega
    rw [rdMems, ih (by omega)]
    simp only
    rw [memsB_at (List.getElem?_eq_getElem hlt), List.append_assoc, rdMem_front (h _ (List.getElem_mem hlt)), List.take_succ_eq_append_getElem hlt]
theorem rdMems_back {k : Nat} {st : RSt} {l : List Mem} {r : List UInt8} (h : rdMems k st = (l, some r)) : ∃ b, st = some b ∧ memsB l ++ r = b := by
  induction k generalizing l r with
  | zero => cases h; exact ⟨r, rfl, rfl⟩
  | succ k ih =>
    rw [rdMems] at h
    cases hd : rdMem (rdMems k st).2 with
    | mk m t =>
      rw [hd] at h
      cases h
      obtain ⟨b1, e1, e2⟩ := rdMem_back hd
      obtain ⟨b, rfl, e3⟩ := ih (l := (rdMems k st).1) (r := b1) (by rw [← e1])
      refine ⟨b, rfl, ?_⟩
      have e4 : memsB [m] ++ r = memB m ++ r := by simp [memsB]
      rw [memsB_append, List.append_assoc, e4, e2, e3]
theorem chk_len {v : Int} {ms : List Mem} (h : chk v ms = 0) : ms.length ≤ 7 ∧ 0 ≤ v ∧ v ≤ 4611686018427387904 := by
  unfold chk at h
  split at h
  · omega
  · split at h
    · omega
    · split at h
      · omega
      · omega
theorem getR_front {v : Int} {ms : List Mem} (h : chk v ms = 0) (r : List UInt8) : getR (ensB v ms ++ r) = (v, ms, some r) := by
  obtain ⟨h7, hv0, hv1⟩ := chk_len h
  have e1 := rInt_front (n := v) (by omega) (by omega) (intB ms.length ++ (memsB ms ++ r))
  have e2 := rCount_front (n := (ms.length : Int)) (m := 7) (by omega) (by omega) (by omega) (memsB ms ++ r)
  have e3 := rdMems_front (chk_good h) r ms.length (Nat.le_refl _)
  have hb : ensB v ms ++ r = intB v ++ (intB ms.length ++ (memsB ms ++ r)) := by simp [ensB]
  simp only [getR]
  rw [hb, e1]
  simp only
  rw [e2]
  simp only [Int.toNat_natCast]
  rw [e3]
  simp [memsB]
theorem get_front {v : Int} {ms : List Mem} (h : chk v ms = 0) : getE (ensB v ms) = some (v, ms) := by
  have := getR_front h []
  rw [List.append_nil] at this
  unfold getE
  rw [this]
  simp only
  rw [if_pos ⟨rfl, h⟩]
theorem get_back {b : List UInt8} {v : Int} {ms : List Mem} (h : getE b = some (v, ms)) : ensB v ms = b ∧ chk v ms = 0 := by
  unfold getE at h
  split at h
  · rename_i hh
    obtain ⟨h1, h2⟩ := hh
    simp only [Option.some.injEq, Prod.mk.injEq] at h
    obtain ⟨rfl, rfl⟩ := h
    refine ⟨?_, h2⟩
    have hw : (getR b).2.2 = some [] := by simpa [rWhole] using h1
    clear h1 h2
    simp only [getR] at hw ⊢
    obtain ⟨x, t, g1⟩ : ∃ x t, rInt (some b) = (x, t) := ⟨_, _, rfl⟩
    obtain ⟨y, u, g2⟩ : ∃ y u, rCount t 7 = (y, u) := ⟨_, _, rfl⟩
    obtain ⟨l, s, g3⟩ : ∃ l s, rdMems y.toNat u = (l, s) := ⟨_, _, rfl⟩
    rw [g1] at hw ⊢
    simp only at hw ⊢
    rw [g2] at hw ⊢
    simp only at hw ⊢
    rw [g3] at hw ⊢
    simp only at hw ⊢
    subst hw
    obtain ⟨b2, rfl, e3⟩ := rdMems_back g3
    obtain ⟨b1, rfl, e2, hy0, hy1⟩ := rCount_back g2
    have e1 := (rInt_back g1).1
    have hl := rdMems_len y.toNat (some b2)
    rw [g3] at hl
    simp only at hl
    rw [← e1, ← e2, ← e3, ensB, hl, Int.toNat_of_nonneg hy0]
    simp
  · cases h
theorem get_cut {v : Int} {ms : List Mem} (h : chk v ms = 0) {q : Nat} (hq : q < (ensB v ms).length) : getE ((ensB v ms).take q) = none := by
  cases hg : getE ((ensB v ms).take q) with
  | none => rfl
  | some x =>
    obtain ⟨v', ms'⟩ := x
    obtain ⟨e, hc⟩ := get_back hg
    have h1 := getR_front hc ((ensB v ms).drop q)
    rw [e, List.take_append_drop] at h1
    have h2 := getR_front h []
    rw [List.append_nil, h1] at h2
    simp only [Prod.mk.injEq, Option.some.injEq] at h2
    have := congrArg List.length h2.2.2
    simp at this
    omega

/-- The reference's reading: an Int, or one more than the most. -/
def smR (st : RSt) (m : Int) : Int × RSt := (if (rInt st).1 < 0 ∨ m < (rInt st).1 then m + 1 else (rInt st).1, (rInt st).2)
def rdMem2 (st : RSt) : Mem × RSt :=
  (((smR st 7).1, (smR (smR st 7).2 2).1, (smR (smR (smR st 7).2 2).2 1000).1, (smR (smR (smR (smR st 7).2 2).2 1000).2 7).1), (smR (smR (smR (smR st 7).2 2).2 1000).2 7).2)
def rdMems2 : Nat → RSt → List Mem × RSt
  | 0, st => ([], st)
  | n + 1, st => ((rdMems2 n st).1 ++ [(rdMem2 (rdMems2 n st).2).1], (rdMem2 (rdMems2 n st).2).2)
theorem rdMems2_len (n : Nat) (st : RSt) : (rdMems2 n st).1.length = n := by
  induction n with
  | zero => rfl
  | succ n ih => simp [rdMems2, ih]
def getR2 (b : List UInt8) : Int × List Mem × RSt :=
  let s0 := rInt (some b)
  let s1 := rCount s0.2 7
  let s2 := rdMems2 s1.1.toNat s1.2
  (s0.1, s2.1, s2.2)
def getE2 (b : List UInt8) : Option (Int × List Mem) :=
  if rWhole (getR2 b).2.2 = true ∧ chk (getR2 b).1 (getR2 b).2.1 = 0 then some ((getR2 b).1, (getR2 b).2.1) else none
theorem sm_step (st : RSt) (m : Int) : (rCount st m = smR st m) ∨ ((rCount st m).2 = none ∧ (smR st m).1 = m + 1) := by
  unfold rCount smR
  by_cases h : (rInt st).1 < 0 ∨ m < (rInt st).1
  · right
    simp [h]
  · left
    simp [h]
theorem smR_nothing (m : Int) : (smR none m).2 = none := rfl
theorem mem_step (st : RSt) : (rdMem st = rdMem2 st) ∨ ((rdMem st).2 = none ∧ ¬ GoodM (rdMem2 st).1) := by
  unfold GoodM
  simp only [rdMem, rdMem2]
  rcases sm_step st 7 with e1 | ⟨n1, b1⟩
  · rw [e1]
    rcases sm_step (smR st 7).2 2 with e2 | ⟨n2, b2⟩
    · rw [e2]
      rcases sm_step (smR (smR st 7).2 2).2 1000 with e3 | ⟨n3, b3⟩
      · rw [e3]
        rcases sm_step (smR (smR (smR st 7).2 2).2 1000).2 7 with e4 | ⟨n4, b4⟩
        · rw [e4]; exact .inl rfl
        · right
          refine ⟨n4, ?_⟩
          rw [b4]; omega
      · right
        refine ⟨by rw [n3]; exact rCount_nothing _, ?_⟩
        rw [b3]; omega
    · right
      refine ⟨by rw [n2, rCount_nothing]; exact rCount_nothing _, ?_⟩
      rw [b2]; omega
  · right
    refine ⟨by rw [n1, rCount_nothing, rCount_nothing]; exact rCount_nothing _, ?_⟩
    rw [b1]; omega
theorem mems_step (n : Nat) (st : RSt) : (rdMems n st = rdMems2 n st) ∨ ((rdMems n st).2 = none ∧ ∃ m ∈ (rdMems2 n st).1, ¬ GoodM m) := by
  induction n with
  | zero => exact .inl rfl
  | succ n ih =>
    rw [rdMems, rdMems2]
    rcases ih with e | ⟨h1, m, hm, hb⟩
    · rw [e]
      rcases mem_step (rdMems2 n st).2 with e2 | ⟨h1, hb⟩
      · rw [e2]; exact .inl rfl
      · exact .inr ⟨h1, _, by simp, hb⟩
    · right
      refine ⟨?_, m, by simp [hm], hb⟩
      simp only
      rw [h1]
      exact rdMem_nothing
theorem ref_get (b : List UInt8) : getE2 b = getE b := by
  unfold getE2 getE getR2 getR
  simp only
  rcases mems_step (rCount (rInt (some b)).2 7).1.toNat (rCount (rInt (some b)).2 7).2 with e | ⟨h1, m, hm, hb⟩
  · rw [e]
  · rw [if_neg (fun hx => hb (chk_good hx.2 m hm)), h1, if_neg (fun hx => by have := hx.1; simp [rWhole] at this)]

end Go.Proofs.YtljioepkbbbibaaDoor
