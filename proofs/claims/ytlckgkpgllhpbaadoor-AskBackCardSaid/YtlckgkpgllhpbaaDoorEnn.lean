/-
  Enn: Backp, Gtp, Enm, Enn.
-/
import Derived.Test.YtlckgkpgllhpbaaDoorBits
import Derived.Test.YtlckgkpgllhpbaaDoorEnp
import Derived.Test.YtlckgkpgllhpbaaDoorEnf
/- Backp -/
namespace Go.Proofs.YtlckgkpgllhpbaaDoor

theorem numAt_front (f k acc u : Nat) (r : List UInt8) (hk : k + f = 9) (hu : u < 2 * 128 ^ f) (h0 : 0 < k → 0 < u) : numAt k acc (b128 f u ++ r) = some (acc + u * 128 ^ k, r) := by
  induction f generalizing k acc u with
  | zero =>
    have hk9 : k = 9 := by omega
    subst hk9
    have := h0 (by omega)
    have e : (UInt8.ofNat u).toNat = u := by simp only [UInt8.toNat_ofNat']; omega
    simp only [b128, List.cons_append, List.nil_append, numAt, e]
    rw [if_neg (by omega), if_neg (by omega)]
  | succ f ih =>
    by_cases h : u < 128
    · have e : (UInt8.ofNat u).toNat = u := by simp only [UInt8.toNat_ofNat']; omega
      rw [b128_lt h]
      simp only [List.cons_append, List.nil_append, numAt, e]
      have hnot : ¬ ((u = 0 ∧ 0 < k) ∨ (1 < u ∧ k = 9)) := by
        rintro (⟨h1, h2⟩ | ⟨h1, h2⟩)
        · have := h0 h2; omega
        · omega
      rw [if_neg (by omega), if_neg hnot]
    · have e : (UInt8.ofNat (u % 128 + 128)).toNat = u % 128 + 128 := by simp only [UInt8.toNat_ofNat']; omega
      rw [b128_ge (by omega)]
      simp only [List.cons_append, numAt, e]
      rw [if_pos (by omega), ih _ _ _ (by omega) (by rw [Nat.pow_succ] at hu; omega) (by omega)]
      congr 2
      rw [show u % 128 + 128 - 128 = u % 128 by omega, Nat.pow_succ, Nat.add_assoc, ← Nat.mul_assoc, Nat.mul_right_comm, ← Nat.add_mul]
      congr 2
      omega
theorem numAt_cut (f k acc u q : Nat) (hk : k + f = 9) (hq : q < (b128 f u).length) : numAt k acc ((b128 f u).take q) = none := by
  induction f generalizing k acc u q with
  | zero =>
    have : q = 0 := by simp [b128] at hq; exact hq
    subst this
    rfl
  | succ f ih =>
    cases q with
    | zero => rfl
    | succ q =>
      by_cases h : u < 128
      · rw [b128_lt h] at hq; simp at hq
      · have e : (UInt8.ofNat (u % 128 + 128)).toNat = u % 128 + 128 := by simp only [UInt8.toNat_ofNat']; omega
        rw [b128_ge (by omega)] at hq ⊢
        simp only [List.take_succ_cons, numAt, e]
        rw [if_pos (by omega)]
        exact ih _ _ _ _ (by omega) (by simpa using hq)
theorem unzig_zig (n : Int) : unzig (zig n) = n := by
  unfold unzig zig
  split <;> split <;> omega
theorem rInt_front {n : Int} (h1 : -9223372036854775808 ≤ n) (h2 : n ≤ 9223372036854775807) (r : List UInt8) : rInt (some (intB n ++ r)) = (n, some r) := by
  have h := numAt_front 9 0 0 (zig n) r rfl (by have := zig_lt h1 h2; omega) (by omega)
  unfold rInt intB
  simp only [h]
  rw [Nat.pow_zero, Nat.mul_one, Nat.zero_add, unzig_zig]
theorem rInt_cut (n : Int) (q : Nat) (hq : q < (intB n).length) : rInt (some ((intB n).take q)) = (0, none) := by
  have h := numAt_cut 9 0 0 (zig n) q rfl hq
  unfold rInt intB
  simp only [h]
theorem rBytes_of {st st' : RSt} {n m : Int} (h : rInt st = (n, st')) (h0 : 0 ≤ n) (hm : n ≤ m) : rBytes st m = tk st' n := by
  unfold rBytes rCount
  rw [h]
  simp only
  rw [if_neg (by omega)]
theorem rBytes_front (l r : List UInt8) (hl : l.length ≤ 9223372036854775807) : rBytes (some (textB l ++ r)) l.length = (l, some r) := by
  unfold textB
  rw [List.append_assoc, rBytes_of (rInt_front (by omega) (by omega) _) (by omega) (by omega)]
  unfold tk
  simp only
  rw [if_pos (by simp; omega), Int.toNat_natCast, List.take_left, List.drop_left]
theorem rBytes_cut (l : List UInt8) (q : Nat) (hl : l.length ≤ 9223372036854775807) (hq : q < (textB l).length) : (rBytes (some ((textB l).take q)) l.length).2 = none := by
  unfold textB at hq ⊢
  by_cases h : q < (intB l.length).length
  · rw [List.take_append_of_le_length (by omega), rBytes_of (rInt_cut _ _ h) (by omega) (by omega)]
    rfl
  · rw [List.take_append, List.take_of_length_le (by omega), rBytes_of (rInt_front (by omega) (by omega) _) (by omega) (by omega)]
    unfold tk
    simp only
    rw [if_neg]
    simp at hq ⊢
    omega

/-- A thing: its sort (of four), its number, its bytes. -/
abbrev Thing := Int × Int × List UInt8
def putB (x : Thing) : List UInt8 := if x.1 % 4 = 0 then [UInt8.ofNat (x.2.1 % 256).toNat] else if x.1 % 4 = 1 then intB x.2.1 else textB x.2.2
theorem putB_len (x : Thing) : (putB x).length ≤ x.2.2.length + 10 := by
  unfold putB
  split
  · simp
  · split
    · have := intB_len x.2.1; omega
    · exact textB_len _
def catB : List Thing → List UInt8
  | [] => []
  | x :: l => putB x ++ catB l
theorem catB_append (a b : List Thing) : catB (a ++ b) = catB a ++ catB b := by
  induction a with
  | nil => rfl
  | cons x a ih => simp [catB, ih]
/-- A thing is read: is it the one, and what is left. -/
def rdOne (st : RSt) (x : Thing) : Bool × RSt :=
  if x.1 % 4 = 0 then ((rByte st).1 == UInt8.ofNat (x.2.1 % 256).toNat, (rByte st).2)
  else if x.1 % 4 = 1 then ((rInt st).1 == x.2.1, (rInt st).2)
  else ((rBytes st x.2.2.length).1 == x.2.2, (rBytes st x.2.2.length).2)
def rdAll : List Thing → RSt → Bool × RSt
  | [], st => (true, st)
  | x :: l, st => if (rdOne st x).1 = true ∧ rGood (rdOne st x).2 = true then rdAll l (rdOne st x).2 else (false, (rdOne st x).2)
def Fits (x : Thing) : Prop := (-9223372036854775808 ≤ x.2.1 ∧ x.2.1 ≤ 9223372036854775807) ∧ x.2.2.length ≤ 9223372036854775807
theorem rdOne_front {x : Thing} (hx : Fits x) (r : List UInt8) : rdOne (some (putB x ++ r)) x = (true, some r) := by
  unfold rdOne putB
  split
  · simp [rByte]
  · split
    · rw [rInt_front hx.1.1 hx.1.2]; simp
    · rw [rBytes_front _ _ hx.2]; simp
theorem rdOne_cut {x : Thing} (hx : Fits x) (q : Nat) (hq : q < (putB x).length) : (rdOne (some ((putB x).take q)) x).2 = none := by
  unfold rdOne putB at *
  split
  · rename_i h
    rw [if_pos h] at hq
    simp at hq
    subst hq
    rfl
  · rename_i h
    rw [if_neg h] at hq
    split
    · rename_i h1
      rw [if_pos h1] at hq
      rw [rInt_cut _ _ hq]
    · rename_i h1
      rw [if_neg h1] at hq
      exact rBytes_cut _ _ hx.2 hq
theorem rdAll_front (l : List Thing) (hl : ∀ x ∈ l, Fits x) (r : List UInt8) : rdAll l (some (catB l ++ r)) = (true, some r) := by
  induction l with
  | nil => rfl
  | cons x l ih =>
    unfold rdAll catB
    rw [List.append_assoc, rdOne_front (hl x (by simp)), if_pos ⟨rfl, rfl⟩]
    exact ih fun y hy => hl y (by simp [hy])
theorem rdAll_cut (l : List Thing) (hl : ∀ x ∈ l, Fits x) (q : Nat) (hq : q < (catB l).length) : rdAll l (some ((catB l).take q)) = (false, none) := by
  induction l generalizing q with
  | nil => simp [catB] at hq
  | cons x l ih =>
    simp only [catB] at hq ⊢
    unfold rdAll
    by_cases h : q < (putB x).length
    · rw [List.take_append_of_le_length (by omega), rdOne_cut (hl x (by simp)) q h, if_neg (by simp [rGood])]
    · rw [List.take_append, List.take_of_length_le (by omega), rdOne_front (hl x (by simp)), if_pos ⟨rfl, rfl⟩]
      rw [List.length_append] at hq
      exact ih (fun y hy => hl y (by simp [hy])) _ (by omega)

end Go.Proofs.YtlckgkpgllhpbaaDoor

/- Gtp -/
namespace Go.Proofs.YtlckgkpgllhpbaaDoor

theorem rCount_front {n m : Int} (h0 : 0 ≤ n) (h1 : n ≤ m) (hm : m ≤ 9223372036854775807) (r : List UInt8) : rCount (some (intB n ++ r)) m = (n, some r) := by
  unfold rCount
  rw [rInt_front (by omega) (by omega)]
  simp only
  rw [if_neg (by omega)]
theorem rCount_back {st : RSt} {m n : Int} {r : List UInt8} (h : rCount st m = (n, some r)) : ∃ l, st = some l ∧ intB n ++ r = l ∧ 0 ≤ n ∧ n ≤ m := by
  unfold rCount at h
  cases st with
  | none => simp [rInt] at h
  | some l =>
    cases hn : rInt (some l) with
    | mk x t =>
      rw [hn] at h
      simp only at h
      split at h
      · cases h
      · cases h
        exact ⟨l, rfl, (rInt_back hn).1, by omega, by omega⟩
theorem rCount_nothing (m : Int) : (rCount none m).2 = none := by
  unfold rCount rInt
  simp only
  split <;> rfl
theorem rdMem_nothing : (rdMem none).2 = none := by
  simp only [rdMem, rCount_nothing]
theorem rdMem_front {m : Mem} (h : GoodM m) (r : List UInt8) : rdMem (some (memB m ++ r)) = (m, some r) := by
  unfold GoodM at h
  have e1 := rCount_front (n := m.1) (m := 7) (by omega) (by omega) (by omega) (intB m.2.1 ++ (intB m.2.2.1 ++ (intB m.2.2.2 ++ r)))
  have e2 := rCount_front (n := m.2.1) (m := 2) (by omega) (by omega) (by omega) (intB m.2.2.1 ++ (intB m.2.2.2 ++ r))
  have e3 := rCount_front (n := m.2.2.1) (m := 1000) (by omega) (by omega) (by omega) (intB m.2.2.2 ++ r)
  have e4 := rCount_front (n := m.2.2.2) (m := 7) (by omega) (by omega) (by omega) r
  have hb : memB m ++ r = intB m.1 ++ (intB m.2.1 ++ (intB m.2.2.1 ++ (intB m.2.2.2 ++ r))) := by simp [memB]
  simp only [rdMem]
  rw [hb, e1, e2, e3, e4]
theorem rdMem_back {st : RSt} {m : Mem} {r : List UInt8} (h : rdMem st = (m, some r)) : ∃ l, st = some l ∧ memB m ++ r = l := by
  obtain ⟨x1, t1, g1⟩ : ∃ x t, rCount st 7 = (x, t) := ⟨_, _, rfl⟩
  obtain ⟨x2, t2, g2⟩ : ∃ x t, rCount t1 2 = (x, t) := ⟨_, _, rfl⟩
  obtain ⟨x3, t3, g3⟩ : ∃ x t, rCount t2 1000 = (x, t) := ⟨_, _, rfl⟩
  obtain ⟨x4, t4, g4⟩ : ∃ x t, rCount t3 7 = (x, t) := ⟨_, _, rfl⟩
  simp only [rdMem, g1, g2, g3, g4] at h
  cases h
  obtain ⟨l3, rfl, e4, -⟩ := rCount_back g4
  obtain ⟨l2, rfl, e3, -⟩ := rCount_back g3
  obtain ⟨l1, rfl, e2, -⟩ := rCount_back g2
  obtain ⟨l0, rfl, e1, -⟩ := rCount_back g1
  refine ⟨l0, rfl, ?_⟩
  rw [← e1, ← e2, ← e3, ← e4]
  simp [memB]
theorem memsB_at {l : List Mem} {k : Nat} {m : Mem} (h : l[k]? = some m) : memsB (l.drop k) = memB m ++ memsB (l.drop (k + 1)) := by
  have hk := List.getElem?_eq_some_iff.1 h
  rw [List.drop_eq_getElem_cons hk.1, hk.2]
  rfl
theorem rdMems_front {l : List Mem} (h : ∀ m ∈ l, GoodM m) (r : List UInt8) (k : Nat) (hk : k ≤ l.length) : rdMems k (some (memsB l ++ r)) = (l.take k, some (memsB (l.drop k) ++ r)) := by
  induction k with
  | zero => simp [rdMems]
  | succ k ih =>
    have hlt : k < l.length := by omega
    rw [rdMems, ih (by omega)]
    simp only
    rw [memsB_at (List.getElem?_eq_getElem hlt), List.append_assoc, rdMem_front (h _ (List.getElem_mem hlt)), List.take_succ_eq_append_getElem hlt]
theorem rdMems_back {k : Nat} {st : RSt} {l : List Mem} {r : List UInt8} (h : rdMems k st = (l, some r)) : ∃ b, st = some b ∧ memsB l ++ r = b := by
  induction k generalizing l r with
  | zero => cases h; exact ⟨r, rfl, rfl⟩
  | succ k ih =>
    rw [rdMems] at h
    cases hd : rdMem (rdMems k st).2 with
    | mk m t =>
      rw [hd] at h
      cases h
      obtain ⟨b1, e1, e2⟩ := rdMem_back hd
      obtain ⟨b, rfl, e3⟩ := ih (l := (rdMems k st).1) (r := b1) (by rw [← e1])
      refine ⟨b, rfl, ?_⟩
      have e4 : memsB [m] ++ r = memB m ++ r := by simp [memsB]
      rw [memsB_append, List.append_assoc, e4, e2, e3]
theorem chk_len {v : Int} {ms : List Mem} (h : chk v ms = 0) : ms.length ≤ 7 ∧ 0 ≤ v ∧ v ≤ 4611686018427387904 := by
  unfold chk at h
  split at h
  · omega
  · split at h
    · omega
    · split at h
      · omega
      · omega
theorem getR_front {v : Int} {ms : List Mem} (h : chk v ms = 0) (r : List UInt8) : getR (ensB v ms ++ r) = (v, ms, some r) := by
  obtain ⟨h7, hv0, hv1⟩ := chk_len h
  have e1 := rInt_front (n := v) (by omega) (by omega) (intB ms.length ++ (memsB ms ++ r))
  have e2 := rCount_front (n := (ms.length : Int)) (m := 7) (by omega) (by omega) (by omega) (memsB ms ++ r)
  have e3 := rdMems_front (chk_good h) r ms.length (Nat.le_refl _)
  have hb : ensB v ms ++ r = intB v ++ (intB ms.length ++ (memsB ms ++ r)) := by simp [ensB]
  simp only [getR]
  rw [hb, e1]
  simp only
  rw [e2]
  simp only [Int.toNat_natCast]
  rw [e3]
  simp [memsB]
theorem get_front {v : Int} {ms : List Mem} (h : chk v ms = 0) : getE (ensB v ms) = some (v, ms) := by
  have := getR_front h []
  rw [List.append_nil] at this
  unfold getE
  rw [this]
  simp only
  rw [if_pos ⟨rfl, h⟩]
theorem get_back {b : List UInt8} {v : Int} {ms : List Mem} (h : getE b = some (v, ms)) : ensB v ms = b ∧ chk v ms = 0 := by
  unfold getE at h
  split at h
  · rename_i hh
    obtain ⟨h1, h2⟩ := hh
    simp only [Option.some.injEq, Prod.mk.injEq] at h
    obtain ⟨rfl, rfl⟩ := h
    refine ⟨?_, h2⟩
    have hw : (getR b).2.2 = some [] := by simpa [rWhole] using h1
    clear h1 h2
    simp only [getR] at hw ⊢
    obtain ⟨x, t, g1⟩ : ∃ x t, rInt (some b) = (x, t) := ⟨_, _, rfl⟩
    obtain ⟨y, u, g2⟩ : ∃ y u, rCount t 7 = (y, u) := ⟨_, _, rfl⟩
    obtain ⟨l, s, g3⟩ : ∃ l s, rdMems y.toNat u = (l, s) := ⟨_, _, rfl⟩
    rw [g1] at hw ⊢
    simp only at hw ⊢
    rw [g2] at hw ⊢
    simp only at hw ⊢
    rw [g3] at hw ⊢
    simp only at hw ⊢
    subst hw
    obtain ⟨b2, rfl, e3⟩ := rdMems_back g3
    obtain ⟨b1, rfl, e2, hy0, hy1⟩ := rCount_back g2
    have e1 := (rInt_back g1).1
    have hl := rdMems_len y.toNat (some b2)
    rw [g3] at hl
    simp only at hl
    rw [← e1, ← e2, ← e3, ensB, hl, Int.toNat_of_nonneg hy0]
    simp
  · cases h
theorem get_cut {v : Int} {ms : List Mem} (h : chk v ms = 0) {q : Nat} (hq : q < (ensB v ms).length) : getE ((ensB v ms).take q) = none := by
  cases hg : getE ((ensB v ms).take q) with
  | none => rfl
  | some x =>
    obtain ⟨v', ms'⟩ := x
    obtain ⟨e, hc⟩ := get_back hg
    have h1 := getR_front hc ((ensB v ms).drop q)
    rw [e, List.take_append_drop] at h1
    have h2 := getR_front h []
    rw [List.append_nil, h1] at h2
    simp only [Prod.mk.injEq, Option.some.injEq] at h2
    have := congrArg List.length h2.2.2
    simp at this
    omega

/-- The reference's reading: an Int, or one more than the most. -/
def smR (st : RSt) (m : Int) : Int × RSt := (if (rInt st).1 < 0 ∨ m < (rInt st).1 then m + 1 else (rInt st).1, (rInt st).2)
def rdMem2 (st : RSt) : Mem × RSt :=
  (((smR st 7).1, (smR (smR st 7).2 2).1, (smR (smR (smR st 7).2 2).2 1000).1, (smR (smR (smR (smR st 7).2 2).2 1000).2 7).1), (smR (smR (smR (smR st 7).2 2).2 1000).2 7).2)
def rdMems2 : Nat → RSt → List Mem × RSt
  | 0, st => ([], st)
  | n + 1, st => ((rdMems2 n st).1 ++ [(rdMem2 (rdMems2 n st).2).1], (rdMem2 (rdMems2 n st).2).2)
theorem rdMems2_len (n : Nat) (st : RSt) : (rdMems2 n st).1.length = n := by
  induction n with
  | zero => rfl
  | succ n ih => simp [rdMems2, ih]
def getR2 (b : List UInt8) : Int × List Mem × RSt :=
  let s0 := rInt (some b)
  let s1 := rCount s0.2 7
  let s2 := rdMems2 s1.1.toNat s1.2
  (s0.1, s2.1, s2.2)
def getE2 (b : List UInt8) : Option (Int × List Mem) :=
  if rWhole (getR2 b).2.2 = true ∧ chk (getR2 b).1 (getR2 b).2.1 = 0 then some ((getR2 b).1, (getR2 b).2.1) else none
theorem sm_step (st : RSt) (m : Int) : (rCount st m = smR st m) ∨ ((rCount st m).2 = none ∧ (smR st m).1 = m + 1) := by
  unfold rCount smR
  by_cases h : (rInt st).1 < 0 ∨ m < (rInt st).1
  · right
    simp [h]
  · left
    simp [h]
theorem smR_nothing (m : Int) : (smR none m).2 = none := rfl
theorem mem_step (st : RSt) : (rdMem st = rdMem2 st) ∨ ((rdMem st).2 = none ∧ ¬ GoodM (rdMem2 st).1) := by
  unfold GoodM
  simp only [rdMem, rdMem2]
  rcases sm_step st 7 with e1 | ⟨n1, b1⟩
  · rw [e1]
    rcases sm_step (smR st 7).2 2 with e2 | ⟨n2, b2⟩
    · rw [e2]
      rcases sm_step (smR (smR st 7).2 2).2 1000 with e3 | ⟨n3, b3⟩
      · rw [e3]
        rcases sm_step (smR (smR (smR st 7).2 2).2 1000).2 7 with e4 | ⟨n4, b4⟩
        · rw [e4]; exact .inl rfl
        · right
          refine ⟨n4, ?_⟩
          rw [b4]; omega
      · right
        refine ⟨by rw [n3]; exact rCount_nothing _, ?_⟩
        rw [b3]; omega
    · right
      refine ⟨by rw [n2, rCount_nothing]; exact rCount_nothing _, ?_⟩
      rw [b2]; omega
  · right
    refine ⟨by rw [n1, rCount_nothing, rCount_nothing]; exact rCount_nothing _, ?_⟩
    rw [b1]; omega
theorem mems_step (n : Nat) (st : RSt) : (rdMems n st = rdMems2 n st) ∨ ((rdMems n st).2 = none ∧ ∃ m ∈ (rdMems2 n st).1, ¬ GoodM m) := by
  induction n with
  | zero => exact .inl rfl
  | succ n ih =>
    rw [rdMems, rdMems2]
    rcases ih with e | ⟨h1, m, hm, hb⟩
    · rw [e]
      rcases mem_step (rdMems2 n st).2 with e2 | ⟨h1, hb⟩
      · rw [e2]; exact .inl rfl
      · exact .inr ⟨h1, _, by simp, hb⟩
    · right
      refine ⟨?_, m, by simp [hm], hb⟩
      simp only
      rw [h1]
      exact rdMem_nothing
theorem ref_get (b : List UInt8) : getE2 b = getE b := by
  unfold getE2 getE getR2 getR
  simp only
  rcases mems_step (rCount (rInt (some b)).2 7).1.toNat (rCount (rInt (some b)).2 7).2 with e | ⟨h1, m, hm, hb⟩
  · rw [e]
  · rw [if_neg (fun hx => hb (chk_good hx.2 m hm)), h1, if_neg (fun hx => by have := hx.1; simp [rWhole] at this)]

end Go.Proofs.YtlckgkpgllhpbaaDoor

/- Enm -/
namespace Go.Proofs.YtlckgkpgllhpbaaDoor
open Go.RowKit

set_option maxRecDepth 8000 in
set_option maxHeartbeats 6400000 in
theorem get_any (A : Option Addr) (b : List UInt8) (c lo hi : Nat) (w : World) (h : Rd w lo hi A b) (hh : hi ≤ w.heap.size) (hl : b.length ≤ 140737488355328) (v : Int) (ms : List Mem) (fin : RSt) (hg : getR b = (v, ms, fin)) :
    Calls Tryd.prog 91 #[.slice A b.length c] w fun e w' => (∃ A' c', e = .returned (.tuple #[.agg #[.int .i64 v, .slice A' ms.length c'], .int .i64 0]) ∧ ms.length ≤ c' ∧ c' ≤ maxLen ∧ RdM w' w.heap.size w'.heap.size A' ms ∧ Fr NoB w w' ∧ (rWhole fin = true ∧ chk v ms = 0)) ∨ (e = .returned (.tuple #[.agg #[.int .i64 0, .slice none 0 0], .int .i64 4]) ∧ Fr NoB w w' ∧ ¬ (rWhole fin = true ∧ chk v ms = 0)) := by
  obtain ⟨e1, e2⟩ := Prod.mk.injEq _ _ _ _ ▸ hg
  obtain ⟨e2, e3⟩ := Prod.mk.injEq _ _ _ _ ▸ e2
  have hrc := rCount_range (rInt (some b)).2 7 (by omega)
  obtain ⟨n, hn⟩ : ∃ n : Nat, (rCount (rInt (some b)).2 7).1 = (n : Int) := ⟨((rCount (rInt (some b)).2 7).1).toNat, by omega⟩
  obtain ⟨s1, hs1⟩ : ∃ s1, (rCount (rInt (some b)).2 7).2 = s1 := ⟨_, rfl⟩
  obtain ⟨s0, hs0⟩ : ∃ s0, (rInt (some b)).2 = s0 := ⟨_, rfl⟩
  have hn7 : (n : Int) ≤ 7 := by omega
  have hm : (rdMems n s1).1 = ms := by rw [← e2]; simp only [getR] at *; rw [hn, hs1]; rfl
  have hst : (rdMems n s1).2 = fin := by rw [← e3]; simp only [getR] at *; rw [hn, hs1]; rfl
  have hv : (rInt (some b)).1 = v := e1
  rw [hs0] at hn hs1
  have HR := Lib.hid h
  have hI := fun W lo p (r : Rdr W lo p (some b)) => rInt_calls lo p (some b) W r
  rw [hv, hs0] at hI
  have HI := Lib.hid hI
  have hC := fun W lo p (r : Rdr W lo p s0) => rCount_calls lo p s0 7 W r
  rw [hn, hs1] at hC
  have HC := Lib.hid hC
  have HM := Lib.hid hm
  have HST := Lib.hid hst
  clear h hI hC hm hst hrc hs0 hs1 hn hv e1 e2 e3 hg
  obtain ⟨i0, hi0, hz0, hz1, hz2⟩ := info_parts info_mem
  go_enter Tryd.func91, Tryd.ntmps91
  go_wp2_with (fail)
  have F0 := Lib.hid ((Fr.refl NoB w).alloc (.cells #[.int .i64 0, .slice none 0 0] 40))
  have HRV := Lib.hid (heap_alloc_new w (.cells #[.int .i64 0, .slice none 0 0] 40))
  generalize w.alloc (.cells #[.int .i64 0, .slice none 0 0] 40) = wb at F0 HRV ⊢
  refine (rNew_calls A b c lo hi wb (HR.out.fr F0.out hh (fun _ _ _ x => x)) hl).mono ?_
  rintro e w1 ⟨p, rfl, q1, q2, q3, -⟩
  have Q1 := Lib.hid q1
  have Q2 := Lib.hid q2
  have Q3 := Lib.hid q3
  clear q1 q2 q3 HR
  go_wp2_with (fail)
  refine (HI.out _ _ _ Q2.out).mono ?_
  rintro e w2 ⟨rfl, a2, f2, -⟩
  have HA2 := Lib.hid a2
  have F2 := Lib.hid (Q3.out.upE f2 (fun k hk => by simp only [OneB] at hk; have := Q1.out; omega))
  clear a2 f2 Q2 HI
  go_wp2_with (fail)
  have t3 : GeW wb (w2.alloc (.cells #[.int .i64 v, .slice none 0 0] 40)) wb.heap.size p w2.heap.size v (.slice none 0 0) [] s0 :=
    ⟨HA2.out.fr ((Fr.refl NoB w2).alloc _) (fun _ _ _ x => x) Q1.out, F2.out.alloc _, Nat.le_refl _, Q1.out, HA2.out.lt, heap_alloc_new w2 _, World.ownsRow_nil _ _ _ _⟩
  generalize w2.alloc (.cells #[.int .i64 v, .slice none 0 0] 40) = w3 at t3 ⊢
  generalize w2.heap.size = E at t3 ⊢
  refine (HC.out _ _ _ t3.a).mono ?_
  rintro e w4 ⟨rfl, a4, f4, -⟩
  have T4 := Lib.hid (t3.read a4 f4)
  clear t3 a4 f4 HC HA2 F2 e2 Q1 Q3
  go_wp2
  go_loopw [16] (fun i wr => ∃ (k : Nat) (V : Value), k ≤ n ∧ i = .int .i64 (k : Int) ∧ GeW wb wr wb.heap.size p E v V (rdMems k s1).1 (rdMems k s1).2) (fun i _ => n - (intOf i).toNat)
  case atStart => exact ⟨0, _, Nat.zero_le _, rfl, T4.out⟩
  case round =>
    obtain ⟨k, V, hk, rfl, ht⟩ := hrel
    have TK := Lib.hid ht
    clear ht T4
    by_cases hlt : k < n
    · have hki : (k : Int) < (n : Int) := by omega
      have hll := rdMems_len k s1
      have hstep : rdMems (k + 1) s1 = ((rdMems k s1).1 ++ [(rdMem (rdMems k s1).2).1], (rdMem (rdMems k s1).2).2) := rfl
      generalize (rdMems k s1).1 = l at TK hll hstep
      generalize (rdMems k s1).2 = st at TK hstep
      obtain ⟨x1, t1, g1⟩ : ∃ x t, rCount st 7 = (x, t) := ⟨_, _, rfl⟩
      obtain ⟨x2, t2, g2⟩ : ∃ x t, rCount t1 2 = (x, t) := ⟨_, _, rfl⟩
      obtain ⟨x3, t3, g3⟩ : ∃ x t, rCount t2 1000 = (x, t) := ⟨_, _, rfl⟩
      obtain ⟨x4, t4, g4⟩ : ∃ x t, rCount t3 7 = (x, t) := ⟨_, _, rfl⟩
      have hmem : rdMem st = ((x1, x2, x3, x4), t4) := by simp [rdMem, g1, g2, g3, g4]
      rw [hmem] at hstep
      have r2 := rCount_range t1 2 (by omega)
      rw [g2] at r2
      simp only at r2
      have hx2 : x2 % 256 = x2 := by omega
      have hC1 := fun W (r : Rdr W wb.heap.size p st) => rCount_calls wb.heap.size p st 7 W r
      have hC2 := fun W (r : Rdr W wb.heap.size p t1) => rCount_calls wb.heap.size p t1 2 W r
      have hC3 := fun W (r : Rdr W wb.heap.size p t2) => rCount_calls wb.heap.size p t2 1000 W r
      have hC4 := fun W (r : Rdr W wb.heap.size p t3) => rCount_calls wb.heap.size p t3 7 W r
      rw [g1] at hC1
      rw [g2] at hC2
      rw [g3] at hC3
      rw [g4] at hC4
      have HC1 := Lib.hid hC1
      have HC2 := Lib.hid hC2
      have HC3 := Lib.hid hC3
      have HC4 := Lib.hid hC4
      have HSTEP := Lib.hid hstep
      have HLL := Lib.hid hll
      clear hC1 hC2 hC3 hC4 hstep hmem g1 g2 g3 g4 r2 hll
      go_wp2_with (fail)
      refine (HC1.out _ TK.out.a).mono ?_
      rintro e w5 ⟨rfl, a5, f5, -⟩
      have T5 := Lib.hid (TK.out.read a5 f5)
      have HBV := Lib.hid (fun g (hg : V.ownBlock = some g) => Nat.ne_of_lt (T5.out.own.lt g hg).2)
      have HEK := Lib.hid (Lib.lt_of_heap T5.out.bx)
      clear a5 f5 TK HC1
      go_wp2_with (fail)
      have hmk := heap_alloc_new w5 (.cells #[.int .i64 x1, .int .u8 0, .int .i64 0, .int .i64 0] 106)
      have T5b := Lib.hid (T5.out.keep ((Fr.refl NoB w5).alloc (.cells #[.int .i64 x1, .int .u8 0, .int .i64 0, .int .i64 0] 106)))
      generalize w5.alloc (.cells #[.int .i64 x1, .int .u8 0, .int .i64 0, .int .i64 0] 106) = w5b at hmk T5b ⊢
      generalize w5.heap.size = K at hmk HBV HEK ⊢
      refine (HC2.out _ T5b.out.a).mono ?_
      rintro e w6 ⟨rfl, a6, f6, -⟩
      have T6 := Lib.hid (T5b.out.read a6 f6)
      have hKp : ¬ OneB p K := by have := HEK.out; have := T5b.out.pE; simp only [OneB]; omega
      have hm6 := f6.at_ hmk hKp
      have HM6 := Lib.hid hm6
      have y1 := (cells_of hm6 1).1
      have z1 := (cells_of hm6 1).2
      simp only [List.getElem?_toArray, List.getElem?_cons_zero, List.getElem?_cons_succ] at y1
      clear a6 f6 hmk T5b HC2 hm6
      go_wp2_with (fail)
      have T6b := Lib.hid (T6.out.set K 1 HEK.out HBV.out (.int .u8 x2))
      have hm6b : (w6.setCell ⟨K, 1, none⟩ (.int .u8 x2)).heap[K]? = some (.cells #[.int .i64 x1, .int .u8 x2, .int .i64 0, .int .i64 0] 106 (0, 0)) := by rw [heap_set HM6.out]; rfl
      generalize w6.setCell ⟨K, 1, none⟩ (.int .u8 x2) = w6b at hm6b T6b ⊢
      clear T6 HM6 y1 z1
      refine (HC3.out _ T6b.out.a).mono ?_
      rintro e w7 ⟨rfl, a7, f7, -⟩
      have T7 := Lib.hid (T6b.out.read a7 f7)
      have hm7 := f7.at_ hm6b hKp
      clear a7 f7 T6b hm6b HC3
      go_wp2_with (fail)
      refine (HC4.out _ T7.out.a).mono ?_
      rintro e w8 ⟨rfl, a8, f8, -⟩
      have T8 := Lib.hid (T7.out.read a8 f8)
      have hm8 := f8.at_ hm7 hKp
      clear a8 f8 T7 hm7 HC4
      obtain ⟨AV, cV, hVe, _, _⟩ := own_form4 T8.out.own
      subst hVe
      have y2 := (cells_of hm8 2).1
      have z2 := (cells_of hm8 2).2
      have y3 := (cells_of hm8 3).1
      have z3 := (cells_of hm8 3).2
      have T9 := Lib.hid ((T8.out.set K 2 HEK.out HBV.out (.int .i64 x3)).set K 3 HEK.out HBV.out (.int .i64 x4))
      have hm9 : ((w8.setCell ⟨K, 2, none⟩ (.int .i64 x3)).setCell ⟨K, 3, none⟩ (.int .i64 x4)).heap[K]? = some (.cells #[.int .i64 x1, .int .u8 x2, .int .i64 x3, .int .i64 x4] 106 (0, 0)) := by rw [heap_set (heap_set hm8 _) _]; rfl
      have u0 := (cells_of hm9 0).1
      have u1 := (cells_of hm9 1).1
      have u2 := (cells_of hm9 2).1
      have u3 := (cells_of hm9 3).1
      have uE := (cells_of T9.out.bx 1).1
      simp only [List.getElem?_toArray, List.getElem?_cons_zero, List.getElem?_cons_succ] at y2 y3 u0 u1 u2 u3 uE
      have hsrc : ∀ (t : TypeId) (j : Nat) (u : Value), (mv [(x1, x2, x3, x4)])[j]? = some u → (((w8.setCell ⟨K, 2, none⟩ (.int .i64 x3)).setCell ⟨K, 3, none⟩ (.int .i64 x4)).alloc (.cells #[.int .i64 x1, .int .u8 x2, .int .i64 x3, .int .i64 x4] t)).cell? ((⟨w8.heap.size, 0, none⟩ : Addr).add j) = some u := fun t j u hj => by
        obtain ⟨ad, h1, h2⟩ := src_block ((w8.setCell ⟨K, 2, none⟩ (.int .i64 x3)).setCell ⟨K, 3, none⟩ (.int .i64 x4)) #[.int .i64 x1, .int .u8 x2, .int .i64 x3, .int .i64 x4] t (mv [(x1, x2, x3, x4)]) rfl
        have hsz : ((w8.setCell ⟨K, 2, none⟩ (.int .i64 x3)).setCell ⟨K, 3, none⟩ (.int .i64 x4)).heap.size = w8.heap.size := by simp [World.setCell]
        rw [hsz] at h1
        cases h1
        exact h2 j u hj
      have HSRC := Lib.hid hsrc
      clear hm8 hm9 T8 hsrc
      go_wp2_with (at_builtin; go_loud (refine wpList_append_src _ rfl _ _ 26 rfl (E + 1) 106 i0 (.agg #[.int .i64 0, .int .u8 0, .int .i64 0, .int .i64 0]) 4 32 Tryd.underlying26 hi0 hz0 hz1 hz2 rfl (by decide) (.slice AV l.length cV) l.length (mv l) rfl (T9.out.own.alloc _) _ 1 _ (mv [(x1, x2, x3, x4)]) rfl rfl (fun _ => ⟨_, rfl, HSRC.out _⟩) (mv_one _) (by have := HLL.out; unfold maxLen; omega) (by have := HLL.out; omega) (by have := Lib.lt_of_heap T9.out.bx; simp at this ⊢; omega) ?_))
      intro v' wA hA
      obtain ⟨A2, c2, hv2, _, _⟩ := own_form4 hA.own
      subst hv2
      have T10 := Lib.hid (T9.out.push hA)
      have hold := T9.out.old hA
      have q1 := (cells_of hold 1).1
      have q2 := (cells_of hold 1).2
      simp only [List.getElem?_toArray, List.getElem?_cons_zero, List.getElem?_cons_succ] at q1
      clear hA hold T9 HSRC u0 u1 u2 u3 uE y2 y3 z2 z3
      go_wp2
      go_roundw
      case rel => exact ⟨k + 1, _, by omega, by go_num, by rw [HSTEP.out]; exact T10.out⟩
      case measure => simp [intOf]; omega
    · obtain rfl : k = n := by omega
      have ht := TK.out
      rw [HM.out, HST.out] at ht
      obtain ⟨AV, cV, hVe, hl1, hl2⟩ := own_form4 ht.own
      subst hVe
      have TE := Lib.hid ht
      have hrdm := own_rdm ht.own
      have hml : ms.length = k := by rw [← HM.out, rdMems_len]
      have hwh := rWhole_calls wb.heap.size p fin wr ht.a
      have hcc := check_calls v AV ms cV (E + 1) wr.heap.size wr hrdm (Nat.le_refl _) (by omega)
      have HCC := Lib.hid hcc
      have HRD := Lib.hid hrdm
      have b0 := (cells_of ht.bx 0).1
      have b1 := (cells_of ht.bx 1).1
      simp only [List.getElem?_toArray, List.getElem?_cons_zero, List.getElem?_cons_succ] at b0 b1
      have HwE : Hid (w.heap.size < E) := by
        have h1 := TE.out.lo1
        have h2 := TE.out.lo2
        have h3 := TE.out.pE
        have h4 := Lib.lt_of_heap HRV.out
        show w.heap.size < E
        omega
      clear ht hcc hrdm TK HM HST hlt hk hi0 hz0 hz1 hz2 hml
      cases hW : rWhole fin
      · rw [hW] at hwh
        have HWH := Lib.hid hwh
        have hres := TE.out.fr.at_ HRV.out (fun x => x)
        have HRES := Lib.hid hres
        have r0 := (cells_of hres 0).1
        have r1 := (cells_of hres 1).1
        have z0 := (cells_of hres 0).2
        have z1 := (cells_of hres 1).2
        simp only [List.getElem?_toArray, List.getElem?_cons_zero, List.getElem?_cons_succ] at r0 r1
        have HWF := Lib.hid hW
        clear hwh hres hW HCC
        go_wp2_with (fail)
        refine HWH.out.mono ?_
        rintro e w5 ⟨rfl, rfl⟩
        go_wp2
        refine bodyPost_ret (v := .tuple #[.agg #[.int .i64 0, .slice none 0 0], .int .i64 4]) (results_row_tmp (fn := Tryd.f91) (p := 2) (u := 3) (ty := 40) (by kernel_rfl) _ _ w.heap.size 40 _ _ _ rfl (two_set HRES.out) Tryd.underlying40 rfl (by kernel_rfl)) rfl (.inr ⟨rfl, ?_, fun hx => by have h1 := hx.1; first | cases h1 | (rw [HWF.out] at h1; cases h1)⟩)
        exact ((F0.out.then TE.out.fr).setCell (p := ⟨w.heap.size, 0, none⟩) (fun k => absurd k (by simp)) _).setCell (p := ⟨w.heap.size, 1, none⟩) (fun k => absurd k (by simp)) _
      · rw [hW] at hwh
        have HWH := Lib.hid hwh
        have HWF := Lib.hid hW
        clear hwh hW
        go_wp2_with (fail)
        refine HWH.out.mono ?_
        rintro e w5 ⟨rfl, rfl⟩
        go_wp2_with (fail)
        refine HCC.out.mono ?_
        rintro e w9 ⟨rfl, f9⟩
        have T9 := Lib.hid (TE.out.keep f9)
        have hres := T9.out.fr.at_ HRV.out (fun x => x)
        have HRES := Lib.hid hres
        have c0 := (cells_of T9.out.bx 0).1
        have c1 := (cells_of T9.out.bx 1).1
        have r0 := (cells_of hres 0).1
        have r1 := (cells_of hres 1).1
        have z0 := (cells_of hres 0).2
        have z1 := (cells_of hres 1).2
        simp only [List.getElem?_toArray, List.getElem?_cons_zero, List.getElem?_cons_succ] at c0 c1 r0 r1
        have F9 := Lib.hid f9
        clear f9 hres HCC HWH
        by_cases hck : chk v ms = 0
        · have HCK := Lib.hid hck
          rw [hck]
          clear hck
          go_wp2
          refine bodyPost_ret (v := .tuple #[.agg #[.int .i64 v, .slice AV ms.length cV], .int .i64 0]) (results_row_tmp (fn := Tryd.f91) (p := 2) (u := 3) (ty := 40) (by kernel_rfl) _ _ w.heap.size 40 _ _ _ rfl (two_set HRES.out) Tryd.underlying40 rfl (by kernel_rfl)) rfl (.inl ⟨AV, cV, rfl, hl1, hl2, ?_, ?_, by first | rfl | exact HWF.out, by first | rfl | exact HCK.out⟩)
          · have hf : Fr (OneB w.heap.size) wr ((w9.setCell ⟨w.heap.size, 0, none⟩ (.int .i64 v)).setCell ⟨w.heap.size, 1, none⟩ (.slice AV ms.length cV)) := ((F9.out.no (M := OneB w.heap.size)).setCell (p := ⟨w.heap.size, 0, none⟩) (fun _ => rfl) _).setCell (p := ⟨w.heap.size, 1, none⟩) (fun _ => rfl) _
            exact (HRD.out.fr hf (Nat.le_refl _) (fun k hk _ hx => by simp only [OneB] at hx; have := HwE.out; omega)).wide (by have := HwE.out; omega) hf.size
          · exact (((F0.out.then TE.out.fr).then F9.out).setCell (p := ⟨w.heap.size, 0, none⟩) (fun k => absurd k (by simp)) _).setCell (p := ⟨w.heap.size, 1, none⟩) (fun k => absurd k (by simp)) _
        · have hckb : (chk v ms != 0) = true := by simp [hck]
          have HN := Lib.hid hck
          clear hck
          go_wp2
          refine bodyPost_ret (v := .tuple #[.agg #[.int .i64 0, .slice none 0 0], .int .i64 4]) (results_row_tmp (fn := Tryd.f91) (p := 2) (u := 3) (ty := 40) (by kernel_rfl) _ _ w.heap.size 40 _ _ _ rfl (two_set HRES.out) Tryd.underlying40 rfl (by kernel_rfl)) rfl (.inr ⟨rfl, ?_, fun hx => HN.out hx.2⟩)
          exact (((F0.out.then TE.out.fr).then F9.out).setCell (p := ⟨w.heap.size, 0, none⟩) (fun k => absurd k (by simp)) _).setCell (p := ⟨w.heap.size, 1, none⟩) (fun k => absurd k (by simp)) _

/-- Get of any bytes. -/
theorem get_calls (A : Option Addr) (b : List UInt8) (c lo hi : Nat) (w : World) (h : Rd w lo hi A b) (hh : hi ≤ w.heap.size) (hl : b.length ≤ 140737488355328) :
    Calls Tryd.prog 91 #[.slice A b.length c] w fun e w' => ∃ (v : Int) (A' : Option Addr) (ms : List Mem) (c' : Nat) (z : Int), e = .returned (.tuple #[.agg #[.int .i64 v, .slice A' ms.length c'], .int .i64 z]) ∧ RdM w' w.heap.size w'.heap.size A' ms ∧ Fr NoB w w' ∧ ((getE b = some (v, ms) ∧ z = 0) ∨ (getE b = none ∧ v = 0 ∧ ms = [] ∧ z = 4)) := by
  obtain ⟨v, ms, fin, hg⟩ : ∃ v ms fin, getR b = (v, ms, fin) := ⟨_, _, _, rfl⟩
  refine (get_any A b c lo hi w h hh hl v ms fin hg).mono ?_
  rintro e w' (⟨A', c', rfl, h1, h2, h3, h4, h5⟩ | ⟨rfl, h4, h5⟩)
  · exact ⟨v, A', ms, c', 0, rfl, h3, h4, .inl ⟨by unfold getE; rw [hg]; exact if_pos h5, rfl⟩⟩
  · exact ⟨0, none, [], 0, 4, rfl, RdM.nil _ _ _ _, h4, .inr ⟨by unfold getE; rw [hg]; exact if_neg h5, rfl, rfl, rfl⟩⟩

set_option maxRecDepth 4000 in
set_option maxHeartbeats 3200000 in
theorem put_bad (v : Int) (A : Option Addr) (ms : List Mem) (c lo hi : Nat) (w : World) (h : RdM w lo hi A ms) (hh : hi ≤ w.heap.size) (hl : ms.length ≤ 140737488355328) (hbad : chk v ms ≠ 0) :
    Calls Tryd.prog 80 #[.agg #[.int .i64 v, .slice A ms.length c]] w fun e w' => e = .returned (.tuple #[.slice none 0 0, .int .i64 (chk v ms)]) ∧ Fr NoB w w' := by
  have HC := Lib.hid (fun W (f : Fr NoB w W) => check_calls v A ms c lo hi W (h.fr f hh (fun _ _ _ x => x)) (Nat.le_trans hh f.size) hl)
  have hckb : (chk v ms != 0) = true := by simp [hbad]
  clear h hbad
  go_enter Tryd.func80, Tryd.ntmps80
  go_wp2_with (fail)
  refine (HC.out _ ((Fr.refl NoB w).alloc _)).mono ?_
  rintro e w1 ⟨rfl, f1⟩
  have F1 := Lib.hid (((Fr.refl NoB w).alloc _).then f1)
  clear f1 HC
  go_wp2
  go_ret2
  exact ⟨rfl, F1.out⟩

end Go.Proofs.YtlckgkpgllhpbaaDoor

/- Enn -/
namespace Go.Proofs.YtlckgkpgllhpbaaDoor
open Go.RowKit

/-- What Put answers: bytes and an error. -/
def putE (v : Int) (ms : List Mem) : List UInt8 × Int := if chk v ms = 0 then (ensB v ms, 0) else ([], chk v ms)
theorem putE_len (v : Int) (ms : List Mem) : (putE v ms).1.length ≤ 400 := by
  unfold putE
  split
  · rename_i h
    have h7 := (chk_len h).1
    have h1 := memsB_len ms
    have h2 := intB_len v
    have h3 := intB_len (ms.length : Int)
    simp only [ensB, List.length_append]
    omega
  · simp
theorem putE_ok {v : Int} {ms : List Mem} (h : (putE v ms).2 = 0) : getE (putE v ms).1 = some (v, ms) := by
  unfold putE at h ⊢
  by_cases hc : chk v ms = 0
  · rw [if_pos hc]; exact get_front hc
  · rw [if_neg hc] at h; exact absurd h hc
theorem put_calls (v : Int) (A : Option Addr) (ms : List Mem) (c lo hi : Nat) (w : World) (h : RdM w lo hi A ms) (hh : hi ≤ w.heap.size) (hl : ms.length ≤ 140737488355328) :
    Calls Tryd.prog 80 #[.agg #[.int .i64 v, .slice A ms.length c]] w fun e w' => ∃ A' c', e = .returned (.tuple #[.slice A' (putE v ms).1.length c', .int .i64 (putE v ms).2]) ∧ Rd w' w.heap.size w'.heap.size A' (putE v ms).1 ∧ Fr NoB w w' := by
  unfold putE
  by_cases hc : chk v ms = 0
  · rw [if_pos hc]
    refine (put_config v A ms c lo hi w h hh hl hc).mono ?_
    rintro e w' ⟨A', c', rfl, -, -, h1, h2⟩
    exact ⟨A', c', rfl, h1, h2⟩
  · rw [if_neg hc]
    refine (put_bad v A ms c lo hi w h hh hl hc).mono ?_
    rintro e w' ⟨rfl, h2⟩
    exact ⟨none, 0, rfl, Rd.nil _ _ _ _, h2⟩
def getV (b : List UInt8) : Int × List Mem × Int := match getE b with
  | some (v, ms) => (v, ms, 0)
  | none => (0, [], 4)
theorem getV_len (b : List UInt8) : (getV b).2.1.length ≤ 7 := by
  unfold getV
  cases hg : getE b with
  | none => simp
  | some x =>
    obtain ⟨v, ms⟩ := x
    exact (chk_len (get_back hg).2).1
theorem getV_of {b : List UInt8} {v : Int} {ms : List Mem} {z : Int} (h : (getE b = some (v, ms) ∧ z = 0) ∨ (getE b = none ∧ v = 0 ∧ ms = [] ∧ z = 4)) : v = (getV b).1 ∧ ms = (getV b).2.1 ∧ z = (getV b).2.2 := by
  unfold getV
  rcases h with ⟨h, rfl⟩ | ⟨h, rfl, rfl, rfl⟩
  · rw [h]; exact ⟨rfl, rfl, rfl⟩
  · rw [h]; exact ⟨rfl, rfl, rfl⟩
theorem getV_some {b : List UInt8} {v : Int} {ms : List Mem} (h : getE b = some (v, ms)) : getV b = (v, ms, 0) := by
  unfold getV
  rw [h]
theorem get_any2 (A : Option Addr) (b : List UInt8) (c lo hi : Nat) (w : World) (h : Rd w lo hi A b) (hh : hi ≤ w.heap.size) (hl : b.length ≤ 140737488355328) :
    Calls Tryd.prog 91 #[.slice A b.length c] w fun e w' => ∃ A' c', e = .returned (.tuple #[.agg #[.int .i64 (getV b).1, .slice A' (getV b).2.1.length c'], .int .i64 (getV b).2.2]) ∧ RdM w' w.heap.size w'.heap.size A' (getV b).2.1 ∧ Fr NoB w w' := by
  refine (get_calls A b c lo hi w h hh hl).mono ?_
  rintro e w' ⟨v, A', ms, c', z, rfl, h1, h2, h3⟩
  obtain ⟨rfl, rfl, rfl⟩ := getV_of h3
  exact ⟨A', c', rfl, h1, h2⟩
theorem Rd.pre {w : World} {lo hi : Nat} {A : Option Addr} {a b : List UInt8} (h : Rd w lo hi A (a ++ b)) : Rd w lo hi A a := by
  have := h.take (n := a.length)
  rwa [List.take_left' rfl] at this

theorem Rd.step {w w' : World} {A : Option Addr} {l : List UInt8} (h : Rd w 0 w.heap.size A l) (f : Fr NoB w w') : Rd w' 0 w'.heap.size A l := (h.fr f (Nat.le_refl _) (fun _ _ _ x => x)).wide (Nat.le_refl _) f.size
theorem RdM.step {w w' : World} {A : Option Addr} {l : List Mem} (h : RdM w 0 w.heap.size A l) (f : Fr NoB w w') : RdM w' 0 w'.heap.size A l := (h.fr f (Nat.le_refl _) (fun _ _ _ x => x)).wide (Nat.le_refl _) f.size

end Go.Proofs.YtlckgkpgllhpbaaDoor
