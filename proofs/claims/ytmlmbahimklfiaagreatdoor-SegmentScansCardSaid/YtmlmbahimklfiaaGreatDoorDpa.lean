/-
  Dpa: a right deed's bytes are read as that deed, whatever stands behind them; what is read of bytes was put as just these: plain.
-/
import Derived.Test.YtmlmbahimklfiaaGreatDoorDeb
import Derived.Test.YtmlmbahimklfiaaGreatDoorEnn
namespace Go.Proofs.YtmlmbahimklfiaaGreatDoor
open Go.RowKit

theorem rInt_st {st : RSt} {n : Int} {r : List UInt8} (h : rInt st = (n, some r)) : ∃ l, st = some l ∧ intB n ++ r = l := by
  cases st with
  | none => simp [rInt] at h
  | some l => exact ⟨l, rfl, (rInt_back h).1⟩
theorem rInt_range (st : RSt) : -9223372036854775808 ≤ (rInt st).1 ∧ (rInt st).1 ≤ 9223372036854775807 := by
  cases h : rInt st with
  | mk n t =>
    cases t with
    | none =>
      cases st with
      | none => cases h; simp
      | some l =>
        simp only [rInt] at h
        split at h
        · cases h; simp
        · cases h
    | some r =>
      cases st with
      | none => cases h
      | some l => exact (rInt_back h).2
theorem rBytes_fit (l r : List UInt8) (m : Int) (h : (l.length : Int) ≤ m) (hm : m ≤ 9223372036854775807) : rBytes (some (textB l ++ r)) m = (l, some r) := by
  unfold textB
  rw [List.append_assoc, rBytes_of (rInt_front (by omega) (by omega) _) (by omega) h]
  unfold tk
  simp only
  rw [if_pos (by simp; omega), Int.toNat_natCast, List.take_left, List.drop_left]
theorem rBytes_back {st : RSt} {m : Int} {l r : List UInt8} (h : rBytes st m = (l, some r)) : ∃ b, st = some b ∧ textB l ++ r = b ∧ (l.length : Int) ≤ m := by
  unfold rBytes at h
  cases hc : rCount st m with
  | mk n t =>
    rw [hc] at h
    simp only at h
    cases t with
    | none => simp [tk] at h
    | some t =>
      obtain ⟨b, rfl, e, h0, h1⟩ := rCount_back hc
      unfold tk at h
      simp only at h
      split at h
      · rename_i hn
        simp only [Prod.mk.injEq, Option.some.injEq] at h
        obtain ⟨rfl, rfl⟩ := h
        refine ⟨b, rfl, ?_, ?_⟩
        · rw [textB, List.length_take, Nat.min_eq_left (by omega), Int.toNat_of_nonneg h0, List.append_assoc, List.take_append_drop, e]
        · rw [List.length_take]; omega
      · cases h
theorem rBytes_len (st : RSt) (m : Nat) : (rBytes st m).1.length ≤ m := by
  unfold rBytes
  have hr := rCount_range st m (by omega)
  cases hc : rCount st m with
  | mk n t =>
    rw [hc] at hr
    simp only at hr
    cases t with
    | none => simp [tk]
    | some t =>
      simp only [tk]
      split
      · rw [List.length_take]; omega
      · simp
theorem rByte_back {st : RSt} {x : UInt8} {r : List UInt8} (h : rByte st = (x, some r)) : st = some (x :: r) := by
  cases st with
  | none => cases h
  | some l =>
    cases l with
    | nil => cases h
    | cons c l => cases h; rfl
theorem rByte_front (x : UInt8) (r : List UInt8) : rByte (some (x :: r)) = (x, some r) := rfl
theorem kindB_nat {k : Int} (h0 : 0 ≤ k) (h1 : k ≤ 255) : ((kindB k).toNat : Int) = k := by
  unfold kindB
  rw [UInt8.toNat_ofNat']
  omega
theorem kindB_back (x : UInt8) : kindB (x.toNat : Int) = x := by
  unfold kindB
  simp
theorem pchk_len {l : List UInt8} (h : pchk l = true) : l.length ≤ 200 := by
  unfold pchk at h
  cases l with
  | nil => cases h
  | cons c t =>
    simp only [Bool.and_eq_true, decide_eq_true_eq] at h
    exact h.2.1

/-- A deed's head alone. -/
def bareOf (f : Fd) : Fd := ⟨f.z, f.k, f.s, f.t, f.x, f.m, [], [], 0, 0, 0, 0, 0, (0, [])⟩
theorem rdFd_front (f : Fd) (hf : f.Ok) (np : Nat) (h : FitsD f np) (h7 : f.k = 7 → chk f.c.1 f.c.2 = 0) (r : List UInt8) : rdFd (bareOf f) (some (bodyB f ++ r)) = (f, some r) := by
  have how := hf.ow
  have hve := hf.ve
  have hcv := hf.cv
  have hti := hf.ti
  have her := hf.er
  clear hf
  obtain ⟨z, k, s, t, x, m, path, data, ow, ve, cv, ti, er, cver, ms⟩ := f
  simp only at *
  rcases h with h | h | h | h | h | h | h | h | h
  · obtain ⟨rfl, rfl, rfl, rfl, -, ⟨rfl, rfl⟩, hp, hd, -⟩ := h
    have e1 := rBytes_fit path (textB data ++ (intB ow ++ (intB cv ++ r))) 200 (by have h9 := pchk_len hp; simp only at h9; omega) (by omega)
    have e2 := rBytes_fit data (intB ow ++ (intB cv ++ r)) 1000 (by simp only at hd; omega) (by omega)
    have e3 := rInt_front how.1 how.2 (intB cv ++ r)
    have e4 := rInt_front hcv.1 hcv.2 r
    simp [rdFd, bodyB, bareOf, e1, e2, e3, e4]
  · obtain ⟨rfl, rfl, rfl, rfl, rfl, rfl, -, ⟨rfl, rfl⟩, hp, -⟩ := h
    have e1 := rBytes_fit path (intB cv ++ r) 200 (by have h9 := pchk_len hp; simp only at h9; omega) (by omega)
    have e4 := rInt_front hcv.1 hcv.2 r
    simp [rdFd, bodyB, bareOf, e1, e4]
  · obtain ⟨rfl, rfl, rfl, rfl, rfl, -, ⟨rfl, rfl⟩, hp, hd, -⟩ := h
    have e1 := rBytes_fit path (textB data ++ (intB ve ++ r)) 200 (by have h9 := pchk_len hp; simp only at h9; omega) (by omega)
    have e2 := rBytes_fit data (intB ve ++ r) 1000 (by simp only at hd; omega) (by omega)
    have e3 := rInt_front hve.1 hve.2 r
    simp [rdFd, bodyB, bareOf, e1, e2, e3]
  · obtain ⟨rfl, rfl, rfl, rfl, rfl, rfl, rfl, -, ⟨rfl, rfl⟩, -⟩ := h
    have e4 := rInt_front hti.1 hti.2 r
    simp [rdFd, bodyB, bareOf, e4]
  · obtain ⟨rfl, rfl, rfl, rfl, rfl, rfl, rfl, ⟨rfl, rfl⟩, -⟩ := h
    have e4 := rInt_front how.1 how.2 r
    simp [rdFd, bodyB, bareOf, e4]
  · obtain ⟨rfl, rfl, rfl, rfl, rfl, rfl, rfl, rfl, -, ⟨rfl, rfl⟩⟩ := h
    simp [rdFd, bodyB, bareOf]
  · obtain ⟨rfl, rfl, rfl, rfl, rfl, rfl, rfl, rfl, -⟩ := h
    have hck := h7 rfl
    have hl := (putE_len cver ms)
    rw [putE, if_pos hck] at hl
    have e1 := rBytes_fit (ensB cver ms) r 1048576 (by simp only at hl; omega) (by omega)
    have e2 := getV_some (get_front hck)
    simp [rdFd, bodyB, bareOf, e1, e2]
  · obtain ⟨rfl, rfl, rfl, rfl, rfl, rfl, rfl, rfl, ⟨rfl, rfl⟩⟩ := h
    simp [rdFd, bodyB, bareOf]
  · obtain ⟨rfl, rfl, rfl, rfl, rfl, rfl, rfl, -, ⟨rfl, rfl⟩, -⟩ := h
    have e4 := rInt_front her.1 her.2 r
    simp [rdFd, bodyB, bareOf, e4]
theorem rdFd_k (f : Fd) (st : RSt) : (rdFd f st).1.k = f.k := by
  unfold rdFd
  repeat' (split; · rfl)
  rfl
theorem rdFd_head (f : Fd) (st : RSt) : (rdFd f st).1.z = f.z ∧ (rdFd f st).1.s = f.s ∧ (rdFd f st).1.t = f.t ∧ (rdFd f st).1.x = f.x ∧ (rdFd f st).1.m = f.m := by
  unfold rdFd
  repeat' (split; · exact ⟨rfl, rfl, rfl, rfl, rfl⟩)
  exact ⟨rfl, rfl, rfl, rfl, rfl⟩
theorem chk_none0 : chk 0 [] ≠ 0 := by decide +kernel
theorem rdFd_back {f0 f : Fd} {st : RSt} {r : List UInt8} (h : rdFd f0 st = (f, some r)) (hc : f.k = 7 → chk f.c.1 f.c.2 = 0) : ∃ b, st = some b ∧ bodyB f ++ r = b := by
  have hk : f.k = f0.k := by have := rdFd_k f0 st; rw [h] at this; exact this
  obtain ⟨z, k, s, t, x, m, path, data, ow, ve, cv, ti, er, cver, ms⟩ := f0
  simp only at hk
  by_cases h1 : k = 1
  · subst h1
    obtain ⟨x1, t1, g1⟩ : ∃ x t, rBytes st 200 = (x, t) := ⟨_, _, rfl⟩
    obtain ⟨x2, t2, g2⟩ : ∃ x t, rBytes t1 1000 = (x, t) := ⟨_, _, rfl⟩
    obtain ⟨x3, t3, g3⟩ : ∃ x t, rInt t2 = (x, t) := ⟨_, _, rfl⟩
    obtain ⟨x4, t4, g4⟩ : ∃ x t, rInt t3 = (x, t) := ⟨_, _, rfl⟩
    simp only [rdFd, g1, g2, g3, g4, if_true, Prod.mk.injEq] at h
    obtain ⟨rfl, rfl⟩ := h
    obtain ⟨b3, rfl, e4⟩ := rInt_st g4
    obtain ⟨b2, rfl, e3⟩ := rInt_st g3
    obtain ⟨b1, rfl, e2, -⟩ := rBytes_back g2
    obtain ⟨b0, rfl, e1, -⟩ := rBytes_back g1
    refine ⟨b0, rfl, ?_⟩
    rw [← e1, ← e2, ← e3, ← e4]
    simp [bodyB]
  by_cases h2 : k = 2
  · subst h2
    obtain ⟨x1, t1, g1⟩ : ∃ x t, rBytes st 200 = (x, t) := ⟨_, _, rfl⟩
    obtain ⟨x4, t4, g4⟩ : ∃ x t, rInt t1 = (x, t) := ⟨_, _, rfl⟩
    simp only [rdFd, g1, g4, if_true, if_false, h1, Prod.mk.injEq] at h
    obtain ⟨rfl, rfl⟩ := h
    obtain ⟨b1, rfl, e4⟩ := rInt_st g4
    obtain ⟨b0, rfl, e1, -⟩ := rBytes_back g1
    refine ⟨b0, rfl, ?_⟩
    rw [← e1, ← e4]
    simp [bodyB]
  by_cases h3 : k = 3
  · subst h3
    obtain ⟨x1, t1, g1⟩ : ∃ x t, rBytes st 200 = (x, t) := ⟨_, _, rfl⟩
    obtain ⟨x2, t2, g2⟩ : ∃ x t, rBytes t1 1000 = (x, t) := ⟨_, _, rfl⟩
    obtain ⟨x4, t4, g4⟩ : ∃ x t, rInt t2 = (x, t) := ⟨_, _, rfl⟩
    simp only [rdFd, g1, g2, g4, if_true, if_false, h1, h2, Prod.mk.injEq] at h
    obtain ⟨rfl, rfl⟩ := h
    obtain ⟨b2, rfl, e4⟩ := rInt_st g4
    obtain ⟨b1, rfl, e2, -⟩ := rBytes_back g2
    obtain ⟨b0, rfl, e1, -⟩ := rBytes_back g1
    refine ⟨b0, rfl, ?_⟩
    rw [← e1, ← e2, ← e4]
    simp [bodyB]
  by_cases h4 : k = 4
  · subst h4
    obtain ⟨x4, t4, g4⟩ : ∃ x t, rInt st = (x, t) := ⟨_, _, rfl⟩
    simp only [rdFd, g4, if_true, if_false, h1, h2, h3, Prod.mk.injEq] at h
    obtain ⟨rfl, rfl⟩ := h
    obtain ⟨b0, rfl, e4⟩ := rInt_st g4
    exact ⟨b0, rfl, by rw [← e4]; simp [bodyB]⟩
  by_cases h5 : k = 5
  · subst h5
    obtain ⟨x4, t4, g4⟩ : ∃ x t, rInt st = (x, t) := ⟨_, _, rfl⟩
    simp only [rdFd, g4, if_true, if_false, h1, h2, h3, h4, Prod.mk.injEq] at h
    obtain ⟨rfl, rfl⟩ := h
    obtain ⟨b0, rfl, e4⟩ := rInt_st g4
    exact ⟨b0, rfl, by rw [← e4]; simp [bodyB]⟩
  by_cases h7 : k = 7
  · subst h7
    obtain ⟨x4, t4, g4⟩ : ∃ x t, rBytes st 1048576 = (x, t) := ⟨_, _, rfl⟩
    simp only [rdFd, g4, if_true, if_false, h1, h2, h3, h4, h5, Prod.mk.injEq] at h
    obtain ⟨rfl, rfl⟩ := h
    have hc := hc rfl
    simp only at hc
    obtain ⟨b0, rfl, e4, -⟩ := rBytes_back g4
    refine ⟨b0, rfl, ?_⟩
    rw [← e4]
    unfold getV at hc
    cases hg : getE x4 with
    | none => rw [hg] at hc; exact absurd hc chk_none0
    | some y =>
      obtain ⟨v, l⟩ := y
      have := (get_back hg).1
      simp only [bodyB, getV, hg]
      rw [← this]
      simp
  by_cases h9 : k = 9
  · subst h9
    obtain ⟨x4, t4, g4⟩ : ∃ x t, rInt st = (x, t) := ⟨_, _, rfl⟩
    simp only [rdFd, g4, if_true, if_false, h1, h2, h3, h4, h5, h7, Prod.mk.injEq] at h
    obtain ⟨rfl, rfl⟩ := h
    obtain ⟨b0, rfl, e4⟩ := rInt_st g4
    exact ⟨b0, rfl, by rw [← e4]; simp [bodyB]⟩
  simp only [rdFd, if_false, h1, h2, h3, h4, h5, h7, h9, Prod.mk.injEq] at h
  obtain ⟨rfl, rfl⟩ := h
  exact ⟨r, rfl, by simp [bodyB, h1, h2, h3, h4, h5, h7, h9]⟩

/-- What is asked of every part. -/
theorem IsPart.low {last : Int} {q : Fd × Nat} (h : IsPart last q) (hl : last ≤ 3) : q.1.k ≤ 3 ∧ 1 ≤ q.1.k ∧ q.2 = 0 ∧ bareOf q.1 = bareF q.1.k := by
  obtain ⟨h1, h2, h3, h4, h5, h6, h7, -⟩ := h
  have hk : q.1.k ≤ 3 := by omega
  have hb : bareOf q.1 = bareF q.1.k := by unfold bareOf bareF; rw [h1, h2, h3, h4, h5]
  rcases h6 with h | h | h | h | h | h | h | h | h <;> have hk1 := h.1 <;> first | omega | skip
  · exact ⟨hk, by omega, h.2.2.2.2.1, hb⟩
  · exact ⟨hk, by omega, h.2.2.2.2.2.2.1, hb⟩
  · exact ⟨hk, by omega, h.2.2.2.2.2.1, hb⟩
theorem rdPart_front {last : Int} {q : Fd × Nat} (h : IsPart last q) (hl : last ≤ 3) (hok : q.1.Ok) (r : List UInt8) : rdPart (some (kindB q.1.k :: (bodyB q.1 ++ r))) = (q.1, some r) := by
  obtain ⟨h1, h2, -, hb⟩ := h.low hl
  unfold rdPart
  rw [rByte_front]
  simp only
  rw [kindB_nat (by omega) (by omega), ← hb]
  exact rdFd_front q.1 hok q.2 h.2.2.2.2.2.1 (fun h7 => by omega) r
theorem rdPs_front {last : Int} {l : List (Fd × Nat)} (h : ∀ q ∈ l, IsPart last q) (hl : last ≤ 3) (hok : ∀ q ∈ l, q.1.Ok) (r : List UInt8) : rdPs l.length (some (partsB l ++ r)) = (l, some r) := by
  induction l with
  | nil => rfl
  | cons q l ih =>
    have hq := h q (by simp)
    have e := rdPart_front hq hl (hok q (by simp)) (partsB l ++ r)
    have hb : partsB (q :: l) ++ r = kindB q.1.k :: (bodyB q.1 ++ (partsB l ++ r)) := by simp [partsB]
    rw [List.length_cons, rdPs, hb, e]
    simp only [rGood, Option.isSome_some, if_true]
    rw [ih (fun x hx => h x (by simp [hx])) (fun x hx => hok x (by simp [hx]))]
    simp only
    rw [← (hq.low hl).2.2.1]
theorem rdPart_back {st : RSt} {f : Fd} {r : List UInt8} (h : rdPart st = (f, some r)) (hc : f.k = 7 → chk f.c.1 f.c.2 = 0) : ∃ b, st = some b ∧ kindB f.k :: (bodyB f ++ r) = b := by
  unfold rdPart at h
  obtain ⟨x, t, g⟩ : ∃ x t, rByte st = (x, t) := ⟨_, _, rfl⟩
  rw [g] at h
  simp only at h
  have hk := rdFd_k (bareF x.toNat) t
  rw [h] at hk
  obtain ⟨b, rfl, e⟩ := rdFd_back h hc
  refine ⟨x :: b, rByte_back g, ?_⟩
  rw [e, hk]
  simp only [bareF]
  rw [kindB_back]
theorem rdPs_back {n : Nat} {st : RSt} {l : List (Fd × Nat)} {r : List UInt8} (h : rdPs n st = (l, some r)) (hc : ∀ q ∈ l, q.1.k ≤ 3) : l.length = n ∧ ∃ b, st = some b ∧ partsB l ++ r = b := by
  induction n generalizing st l with
  | zero => cases h; exact ⟨rfl, r, rfl, rfl⟩
  | succ n ih =>
    rw [rdPs] at h
    split at h
    · obtain ⟨f, t, g⟩ : ∃ f t, rdPart st = (f, t) := ⟨_, _, rfl⟩
      rw [g] at h
      simp only [Prod.mk.injEq] at h
      obtain ⟨rfl, h2⟩ := h
      obtain ⟨e1, b, rfl, e2⟩ := ih (st := t) (l := (rdPs n t).1) (by rw [← h2]) (fun q hq => hc q (by simp [hq]))
      obtain ⟨b0, rfl, e0⟩ := rdPart_back g (fun h7 => by have := hc (f, 0) (by simp); simp only at this; omega)
      refine ⟨by simp [e1], b0, rfl, ?_⟩
      rw [← e0]
      simp only [partsB, List.cons_append, List.append_assoc]
      rw [e2]
    · rename_i hg
      simp only [Prod.mk.injEq] at h
      obtain ⟨-, h2⟩ := h
      rw [h2] at hg
      simp [rGood] at hg
theorem rdHead_front (f : Fd) (hf : f.Ok) (r : List UInt8) : rdHead (headB f ++ r) = (bareOf f, some r) := by
  have hk := kindB_nat hf.k.1 hf.k.2
  have e1 := rInt_front hf.z.1 hf.z.2 (intB f.s ++ (intB f.t ++ (intB f.x ++ (intB f.m ++ r))))
  have e2 := rInt_front hf.s.1 hf.s.2 (intB f.t ++ (intB f.x ++ (intB f.m ++ r)))
  have e3 := rInt_front hf.t.1 hf.t.2 (intB f.x ++ (intB f.m ++ r))
  have e4 := rInt_front hf.x.1 hf.x.2 (intB f.m ++ r)
  have e5 := rInt_front hf.m.1 hf.m.2 r
  have hb : headB f ++ r = kindB f.k :: (intB f.z ++ (intB f.s ++ (intB f.t ++ (intB f.x ++ (intB f.m ++ r))))) := by simp [headB]
  rw [hb]
  simp only [rdHead, rByte_front, e1, e2, e3, e4, e5, hk]
  rfl
theorem rdHead_back {b : List UInt8} {f : Fd} {r : List UInt8} (h : rdHead b = (f, some r)) : headB f ++ r = b := by
  unfold rdHead at h
  obtain ⟨x0, t0, g0⟩ : ∃ x t, rByte (some b) = (x, t) := ⟨_, _, rfl⟩
  obtain ⟨x1, t1, g1⟩ : ∃ x t, rInt t0 = (x, t) := ⟨_, _, rfl⟩
  obtain ⟨x2, t2, g2⟩ : ∃ x t, rInt t1 = (x, t) := ⟨_, _, rfl⟩
  obtain ⟨x3, t3, g3⟩ : ∃ x t, rInt t2 = (x, t) := ⟨_, _, rfl⟩
  obtain ⟨x4, t4, g4⟩ : ∃ x t, rInt t3 = (x, t) := ⟨_, _, rfl⟩
  obtain ⟨x5, t5, g5⟩ : ∃ x t, rInt t4 = (x, t) := ⟨_, _, rfl⟩
  simp only [g0, g1, g2, g3, g4, g5, Prod.mk.injEq] at h
  obtain ⟨rfl, rfl⟩ := h
  obtain ⟨b4, rfl, e5⟩ := rInt_st g5
  obtain ⟨b3, rfl, e4⟩ := rInt_st g4
  obtain ⟨b2, rfl, e3⟩ := rInt_st g3
  obtain ⟨b1, rfl, e2⟩ := rInt_st g2
  obtain ⟨b0, rfl, e1⟩ := rInt_st g1
  have e0 := rByte_back g0
  simp only [Option.some.injEq] at e0
  rw [e0, ← e1, ← e2, ← e3, ← e4, ← e5]
  simp only [headB, kindB_back]
  simp
theorem Right.parts {f : Fd} {l : List (Fd × Nat)} (h : Right f l) : (∀ q ∈ l, IsPart 3 q) ∧ l.length ≤ 500 ∧ (¬ (f.k = 5 ∨ f.k = 8) → l = []) ∧ (f.k = 8 → l.length ≤ 16) := by
  obtain ⟨-, -, -, -, -, -, hf, h5, -, h8⟩ := h
  by_cases k5 : f.k = 5
  · have := h5 k5
    refine ⟨fun q hq => ?_, this.2.1, fun h => absurd (.inl k5) h, fun h => by omega⟩
    obtain ⟨a, b, c, d, e, g, i, j⟩ := this.2.2 q hq
    exact ⟨a, b, c, d, e, g, by omega, fun h => absurd h (by decide)⟩
  by_cases k8 : f.k = 8
  · have := h8 k8
    exact ⟨this.2.2, by have := this.2.1; omega, fun h => absurd (.inr k8) h, fun _ => this.2.1⟩
  · have hn : l.length = 0 := by
      rcases hf with h | h | h | h | h | h | h | h | h
      · exact h.2.2.2.2.1
      · exact h.2.2.2.2.2.2.1
      · exact h.2.2.2.2.2.1
      · exact h.2.2.2.2.2.2.2.1
      · exact absurd h.1 k5
      · exact h.2.2.2.2.2.2.2.2.1
      · exact h.2.2.2.2.2.2.2.2
      · exact absurd h.1 k8
      · exact h.2.2.2.2.2.2.2.1
    have : l = [] := List.length_eq_zero_iff.1 hn
    subst this
    exact ⟨fun q hq => absurd hq (by simp), by simp, fun _ => rfl, fun h => absurd h k8⟩
theorem rdDeed_front {f : Fd} {l : List (Fd × Nat)} (h : Right f l) (hf : f.Ok) (hok : ∀ q ∈ l, q.1.Ok) (r : List UInt8) : rdDeed (deedB f l ++ r) = ((f, l), some r) := by
  obtain ⟨hp, hn, h0, -⟩ := h.parts
  have hfit := h.2.2.2.2.2.2.1
  have h7 := h.2.2.2.2.2.2.2.2.1
  by_cases hk : f.k = 5 ∨ f.k = 8
  · have hb : deedB f l ++ r = headB f ++ (bodyB f ++ (intB l.length ++ (partsB l ++ r))) := by simp [deedB, hk]
    have e1 := rdHead_front f hf (bodyB f ++ (intB l.length ++ (partsB l ++ r)))
    have e2 := rdFd_front f hf _ hfit (fun k => (h7 k).1) (intB l.length ++ (partsB l ++ r))
    have e3 := rCount_front (n := (l.length : Int)) (m := 500) (by omega) (by omega) (by omega) (partsB l ++ r)
    have e4 := rdPs_front hp (by decide) hok r
    unfold rdDeed
    rw [hb, e1]
    simp only
    rw [e2]
    simp only
    rw [if_pos (show (bareOf f).k = 5 ∨ (bareOf f).k = 8 from hk), e3]
    simp only [Int.toNat_natCast]
    rw [e4]
  · obtain rfl := h0 hk
    have hb : deedB f [] ++ r = headB f ++ (bodyB f ++ r) := by simp [deedB, hk]
    have e1 := rdHead_front f hf (bodyB f ++ r)
    have e2 := rdFd_front f hf _ hfit (fun k => (h7 k).1) r
    unfold rdDeed
    rw [hb, e1]
    simp only
    rw [e2]
    simp only
    rw [if_neg (show ¬ ((bareOf f).k = 5 ∨ (bareOf f).k = 8) from hk)]
theorem getD_front {f : Fd} {l : List (Fd × Nat)} (h : Right f l) (hf : f.Ok) (hok : ∀ q ∈ l, q.1.Ok) : getD (deedB f l) = some (f, l) := by
  have e := rdDeed_front h hf hok []
  rw [List.append_nil] at e
  unfold getD
  rw [e]
  simp only
  rw [if_pos ⟨rfl, h⟩]
theorem rdFd_ok {f : Fd} (h : f.Ok) (st : RSt) : (rdFd f st).1.Ok := by
  have b1 : (rBytes st 200).1.length ≤ 200 := rBytes_len st 200
  have b2 : (rBytes (rBytes st 200).2 1000).1.length ≤ 1000 := rBytes_len (rBytes st 200).2 1000
  obtain ⟨a1, a2, a3, a4, a5, a6, a7, a8, a9, a10, a11, a12, a13, a14, a15⟩ := h
  unfold rdFd
  split
  · exact ⟨a1, a2, a3, a4, a5, a6, rInt_range _, a8, rInt_range _, a10, a11, a12, by simp only; omega, by simp only; omega, a15⟩
  split
  · exact ⟨a1, a2, a3, a4, a5, a6, a7, a8, rInt_range _, a10, a11, a12, by simp only; omega, a14, a15⟩
  split
  · exact ⟨a1, a2, a3, a4, a5, a6, a7, rInt_range _, a9, a10, a11, a12, by simp only; omega, by simp only; omega, a15⟩
  split
  · exact ⟨a1, a2, a3, a4, a5, a6, a7, a8, a9, rInt_range _, a11, a12, a13, a14, a15⟩
  split
  · exact ⟨a1, a2, a3, a4, a5, a6, rInt_range _, a8, a9, a10, a11, a12, a13, a14, a15⟩
  split
  · refine ⟨a1, a2, a3, a4, a5, a6, a7, a8, a9, a10, a11, ?_, a13, a14, by have := getV_len (rBytes st 1048576).1; simp only; omega⟩
    simp only [getV]
    cases hg : getE (rBytes st 1048576).1 with
    | none => simp
    | some y =>
      obtain ⟨v, l⟩ := y
      have := chk_len (get_back hg).2
      simp only
      omega
  split
  · exact ⟨a1, a2, a3, a4, a5, a6, a7, a8, a9, a10, rInt_range _, a12, a13, a14, a15⟩
  · exact ⟨a1, a2, a3, a4, a5, a6, a7, a8, a9, a10, a11, a12, a13, a14, a15⟩
theorem bareF_ok (x : UInt8) : (bareF x.toNat).Ok := by
  have := x.toNat_lt
  constructor <;> simp [bareF] <;> omega
theorem rdPart_ok (st : RSt) : (rdPart st).1.Ok := rdFd_ok (bareF_ok _) _
theorem rdPs_ok (n : Nat) (st : RSt) : ∀ q ∈ (rdPs n st).1, q.1.Ok ∧ q.2 = 0 := by
  induction n generalizing st with
  | zero => intro q hq; simp [rdPs] at hq
  | succ n ih =>
    intro q hq
    rw [rdPs] at hq
    split at hq
    · simp only [List.mem_cons] at hq
      rcases hq with rfl | hq
      · exact ⟨rdPart_ok st, rfl⟩
      · exact ih _ q hq
    · simp at hq
theorem rdHead_ok (b : List UInt8) : (rdHead b).1.Ok := by
  have h0 := (rByte (some b)).1.toNat_lt
  unfold rdHead
  refine ⟨rInt_range _, ?_, rInt_range _, rInt_range _, rInt_range _, rInt_range _, ?_, ?_, ?_, ?_, ?_, ?_, ?_, ?_, ?_⟩ <;> simp <;> omega
theorem rdDeed_ok (b : List UInt8) : (rdDeed b).1.1.Ok ∧ ∀ q ∈ (rdDeed b).1.2, q.1.Ok ∧ q.2 = 0 := by
  unfold rdDeed
  simp only
  split
  · exact ⟨rdFd_ok (rdHead_ok b) _, rdPs_ok _ _⟩
  · exact ⟨rdFd_ok (rdHead_ok b) _, fun q hq => absurd hq (by simp)⟩
theorem getD_back {b : List UInt8} {f : Fd} {l : List (Fd × Nat)} (h : getD b = some (f, l)) : deedB f l = b ∧ Right f l ∧ f.Ok ∧ ∀ q ∈ l, q.1.Ok ∧ q.2 = 0 := by
  unfold getD at h
  split at h
  rotate_left
  · cases h
  rename_i hh
  obtain ⟨hw, hr⟩ := hh
  have hokk := rdDeed_ok b
  simp only [Option.some.injEq] at h
  have h1 : (rdDeed b).1.1 = f := by rw [h]
  have h2 : (rdDeed b).1.2 = l := by rw [h]
  rw [h1, h2] at hr hokk
  refine ⟨?_, hr, hokk⟩
  have hw : (rdDeed b).2 = some [] := by simpa [rWhole] using hw
  obtain ⟨hp, hn, h0, -⟩ := hr.parts
  have h7 := hr.2.2.2.2.2.2.2.2.1
  obtain ⟨f0, t0, g0⟩ : ∃ x t, rdHead b = (x, t) := ⟨_, _, rfl⟩
  obtain ⟨f1, t1, g1⟩ : ∃ x t, rdFd f0 t0 = (x, t) := ⟨_, _, rfl⟩
  obtain ⟨n, t2, g2⟩ : ∃ x t, rCount t1 500 = (x, t) := ⟨_, _, rfl⟩
  obtain ⟨ps, t3, g3⟩ : ∃ x t, rdPs n.toNat t2 = (x, t) := ⟨_, _, rfl⟩
  have hk1 : f1.k = f0.k := by have := rdFd_k f0 t0; rw [g1] at this; exact this
  simp only [rdDeed, g0, g1] at hw h1 h2
  by_cases hk : f0.k = 5 ∨ f0.k = 8
  · rw [if_pos hk, g2] at hw h1 h2
    simp only at hw h1 h2
    rw [g3] at hw h2
    simp only at hw h2
    subst h1 h2 hw
    obtain ⟨e3, b2, rfl, e4⟩ := rdPs_back g3 (fun q hq => ((hp q hq).low (by decide)).1)
    obtain ⟨b1, rfl, e2, hn0, -⟩ := rCount_back g2
    obtain ⟨b0, rfl, e1⟩ := rdFd_back g1 (fun k => (h7 k).1)
    have e0 := rdHead_back g0
    have hh : headB f0 = headB f1 := by
      have := rdFd_head f0 (some b0)
      rw [g1] at this
      simp only at this
      obtain ⟨q1, q2, q3, q4, q5⟩ := this
      simp only [headB, hk1, q1, q2, q3, q4, q5]
    rw [← e0, ← e1, ← e2, ← e4, deedB, if_pos (by rw [hk1]; exact hk), hh, e3, Int.toNat_of_nonneg hn0]
    simp
  · rw [if_neg hk] at hw h1 h2
    simp only at hw h1 h2
    subst h1 h2 hw
    obtain ⟨b0, rfl, e1⟩ := rdFd_back g1 (fun k => (h7 k).1)
    have e0 := rdHead_back g0
    have hh : headB f0 = headB f1 := by
      have := rdFd_head f0 (some b0)
      rw [g1] at this
      simp only at this
      obtain ⟨q1, q2, q3, q4, q5⟩ := this
      simp only [headB, hk1, q1, q2, q3, q4, q5]
    rw [← e0, ← e1, deedB, if_neg (by rw [hk1]; exact hk), hh, List.append_nil]
theorem getD_cut {f : Fd} {l : List (Fd × Nat)} (h : Right f l) (hf : f.Ok) (hok : ∀ q ∈ l, q.1.Ok) {q : Nat} (hq : q < (deedB f l).length) : getD ((deedB f l).take q) = none := by
  cases hg : getD ((deedB f l).take q) with
  | none => rfl
  | some x =>
    obtain ⟨f', l'⟩ := x
    obtain ⟨e, hr, hf', hl'⟩ := getD_back hg
    have h1 := rdDeed_front hr hf' (fun q hq => (hl' q hq).1) ((deedB f l).drop q)
    rw [e, List.take_append_drop] at h1
    have h2 := rdDeed_front h hf hok []
    rw [List.append_nil, h1] at h2
    simp only [Prod.mk.injEq, Option.some.injEq] at h2
    have := congrArg List.length h2.2
    simp at this
    omega
theorem getD_more {f : Fd} {l : List (Fd × Nat)} (h : Right f l) (hf : f.Ok) (hok : ∀ q ∈ l, q.1.Ok) {r : List UInt8} (hr : r ≠ []) : getD (deedB f l ++ r) = none := by
  unfold getD
  rw [rdDeed_front h hf hok r]
  rw [if_neg]
  rintro ⟨hw, -⟩
  simp [rWhole] at hw
  exact hr hw
theorem bodyB_len {f : Fd} {np : Nat} (h : FitsD f np) (h7 : f.k = 7 → chk f.c.1 f.c.2 = 0) : (bodyB f).length ≤ 1240 := by
  have t1 := textB_len f.path
  have t2 := textB_len f.data
  have i1 := intB_len f.ow
  have i2 := intB_len f.ve
  have i3 := intB_len f.cv
  have i4 := intB_len f.ti
  have i5 := intB_len f.er
  rcases h with h | h | h | h | h | h | h | h | h
  · have := pchk_len h.2.2.2.2.2.2.1
    have := h.2.2.2.2.2.2.2.1
    simp [bodyB, h.1]; omega
  · have := pchk_len h.2.2.2.2.2.2.2.2.1
    simp [bodyB, h.1]; omega
  · have := pchk_len h.2.2.2.2.2.2.2.1
    have := h.2.2.2.2.2.2.2.2.1
    simp [bodyB, h.1]; omega
  · simp [bodyB, h.1]; omega
  · simp [bodyB, h.1]; omega
  · simp [bodyB, h.1]
  · have hl := putE_len f.c.1 f.c.2
    rw [putE, if_pos (h7 h.1)] at hl
    have t3 := textB_len (ensB f.c.1 f.c.2)
    simp only at hl
    simp [bodyB, h.1]; omega
  · simp [bodyB, h.1]
  · simp [bodyB, h.1]; omega
theorem partsB_append (a b : List (Fd × Nat)) : partsB (a ++ b) = partsB a ++ partsB b := by
  induction a with
  | nil => rfl
  | cons q a ih => simp [partsB, ih]
theorem partsB_len {l : List (Fd × Nat)} (h : ∀ q ∈ l, IsPart 3 q) : (partsB l).length ≤ 1241 * l.length := by
  induction l with
  | nil => simp [partsB]
  | cons q l ih =>
    have h1 := ih fun x hx => h x (by simp [hx])
    have hq := h q (by simp)
    have h2 := bodyB_len hq.2.2.2.2.2.1 (fun h7 => by have := (hq.low (by decide)).1; omega)
    simp [partsB]
    omega
theorem headB_len (f : Fd) : (headB f).length ≤ 51 := by
  have i1 := intB_len f.z
  have i2 := intB_len f.s
  have i3 := intB_len f.t
  have i4 := intB_len f.x
  have i5 := intB_len f.m
  simp [headB]; omega
theorem deedB_len {f : Fd} {l : List (Fd × Nat)} (h : Right f l) : (deedB f l).length ≤ 700000 := by
  obtain ⟨hp, hn, -, -⟩ := h.parts
  have h1 := headB_len f
  have h2 := bodyB_len h.2.2.2.2.2.2.1 (fun k => (h.2.2.2.2.2.2.2.2.1 k).1)
  have h3 := partsB_len hp
  have h4 := intB_len (l.length : Int)
  unfold deedB
  split <;> simp <;> omega

/- The document's reading. -/
/-- Parts that are read: while the reader is good. -/
def rdPsR : Nat → RSt → List (Fd × Nat) × RSt
  | 0, st => ([], st)
  | n + 1, st => if rGood st = true then (((rdPart st).1, 0) :: (rdPsR n (rdPart st).2).1, (rdPsR n (rdPart st).2).2) else ([], st)
def rdDeedR (b : List UInt8) : (Fd × List (Fd × Nat)) × RSt :=
  let h := rdHead b; let g := rdFd h.1 h.2
  if h.1.k = 5 then
    let n := rCount g.2 500; let p := rdPsR n.1.toNat n.2
    ((g.1, p.1), p.2)
  else if h.1.k = 8 then
    let n := rCount g.2 16; let p := rdPsR n.1.toNat n.2
    ((g.1, p.1), p.2)
  else ((g.1, []), g.2)
def getDR (b : List UInt8) : Option (Fd × List (Fd × Nat)) :=
  if rWhole (rdDeedR b).2 = true ∧ Right (rdDeedR b).1.1 (rdDeedR b).1.2 then some (rdDeedR b).1 else none
theorem rdPsR_none (n : Nat) : rdPsR n none = ([], none) := by cases n <;> rfl
theorem rdPart_none : (rdPart none).2 = none := rfl
theorem rdPs_none (n : Nat) : (rdPs n none).2 = none := by
  cases n with
  | zero => rfl
  | succ n => rw [rdPs, rdPart_none]; rfl
theorem rdPs_same (n : Nat) (st : RSt) : rdPs n st = rdPsR n st ∨ ((rdPs n st).2 = none ∧ (rdPsR n st).2 = none) := by
  induction n generalizing st with
  | zero => exact .inl rfl
  | succ n ih =>
    cases st with
    | none => exact .inr ⟨rdPs_none _, by rw [rdPsR_none]⟩
    | some b =>
      rw [rdPs, rdPsR]
      rw [if_pos (show rGood (some b) = true from rfl)]
      cases ht : (rdPart (some b)).2 with
      | none =>
        right
        rw [if_neg (by simp [rGood])]
        exact ⟨rfl, by rw [rdPsR_none]⟩
      | some t =>
        rw [if_pos (by simp [rGood])]
        rcases ih (some t) with e | ⟨e1, e2⟩
        · left; rw [e]
        · right; exact ⟨e1, e2⟩
theorem rdPs_len {n : Nat} {st : RSt} {r : List UInt8} (h : (rdPs n st).2 = some r) : (rdPs n st).1.length = n := by
  induction n generalizing st with
  | zero => rfl
  | succ n ih =>
    rw [rdPs] at h ⊢
    split at h
    · rename_i hg
      rw [if_pos hg]
      simp only [List.length_cons]
      rw [ih h]
    · rename_i hg
      simp only at h
      rw [h] at hg
      simp [rGood] at hg
theorem getDR_eq (b : List UInt8) : getDR b = getD b := by
  unfold getDR getD rdDeedR rdDeed
  simp only
  by_cases h5 : (rdHead b).1.k = 5
  · rw [if_pos h5, if_pos (Or.inl h5 : (rdHead b).1.k = 5 ∨ (rdHead b).1.k = 8)]
    rcases rdPs_same (rCount (rdFd (rdHead b).1 (rdHead b).2).2 500).1.toNat (rCount (rdFd (rdHead b).1 (rdHead b).2).2 500).2 with e | ⟨e1, e2⟩
    · rw [e]
    · rw [if_neg (fun h => by have := h.1; rw [e2] at this; simp [rWhole] at this), if_neg (fun h => by have := h.1; rw [e1] at this; simp [rWhole] at this)]
  by_cases h8 : (rdHead b).1.k = 8
  · rw [if_neg h5, if_pos h8, if_pos (Or.inr h8 : (rdHead b).1.k = 5 ∨ (rdHead b).1.k = 8)]
    generalize hg : rdFd (rdHead b).1 (rdHead b).2 = g
    obtain ⟨f, st⟩ := g
    have hfk : f.k = 8 := by have := rdFd_k (rdHead b).1 (rdHead b).2; rw [hg] at this; rw [← h8]; exact this
    simp only
    have hr5 := rCount_range st 500 (by omega)
    by_cases hn : (rInt st).1 < 0 ∨ 16 < (rInt st).1
    · have e16 : rCount st 16 = (0, none) := by unfold rCount; simp only; rw [if_pos hn]
      rw [e16]
      rw [if_neg (fun h => by have := h.1; simp [rdPsR_none, rWhole] at this), if_neg]
      rintro ⟨hw, hR⟩
      have hw : (rdPs (rCount st 500).1.toNat (rCount st 500).2).2 = some [] := by simpa [rWhole] using hw
      have hlen := rdPs_len hw
      have hl16 := hR.parts.2.2.2 hfk
      rw [hlen] at hl16
      unfold rCount at hw hl16
      simp only at hw hl16
      split at hw
      · rename_i hx
        simp only at hw
        rw [rdPs_none] at hw
        cases hw
      · rename_i hx
        rw [if_neg hx] at hl16
        simp only at hl16
        omega
    · have e16 : rCount st 16 = rCount st 500 := by unfold rCount; simp only; rw [if_neg hn, if_neg (by omega)]
      rw [e16]
      rcases rdPs_same (rCount st 500).1.toNat (rCount st 500).2 with e | ⟨e1, e2⟩
      · rw [e]
      · rw [if_neg (fun h => by have := h.1; rw [e2] at this; simp [rWhole] at this), if_neg (fun h => by have := h.1; rw [e1] at this; simp [rWhole] at this)]
  · rw [if_neg h5, if_neg h8, if_neg (by omega : ¬ ((rdHead b).1.k = 5 ∨ (rdHead b).1.k = 8))]
end Go.Proofs.YtmlmbahimklfiaaGreatDoor
