/-
  Rfs: Count, Text, Bytes of the reference's Reader, and NewReader.
-/
import Derived.Test.YtbgpgaekckfjlaaDoorRfr
import Derived.Lib.ConvBytes
namespace Go.Proofs.YtbgpgaekckfjlaaDoor
open Go.RowKit

/-- '[]byte(s)': new memory that reads as the string's bytes. -/
theorem conv_bytes {P : Program} {src dst e : TypeId} {u : TypeDesc} (hs : P.underlying src = some u) (hd : P.underlying dst = some (.slice e)) (he : P.underlying e = some (.int .u8)) (w : World) (s : ByteArray) (hm : s.size ≤ maxLen) :
    ∃ A c w', (convert src dst (.string s)).run P w = .ok (.slice A s.size c) w' ∧ s.size ≤ c ∧ c ≤ maxLen ∧ Rd w' w.heap.size w'.heap.size A s.data.toList ∧ Fr NoB w w' := by
  refine ⟨_, _, _, Lib.run_convert_string_bytes w src dst e s hs hd he, grownCap_ge w _ 0 e, grownCap_le_maxLen w _ 0 e hm, fun _ => ⟨w.heap.size, 0, rfl, Nat.le_refl _, by rw [Lib.bytesWorld_size]; omega, fun i hi => ?_⟩, ?_⟩
  · rw [Nat.zero_add]
    exact Lib.bytesWorld_cell w e s i (by rw [Array.length_toList] at hi; exact hi)
  · exact ⟨rfl, rfl, rfl, by rw [Lib.bytesWorld_size]; omega, fun k hk _ => Lib.bytesWorld_at_old w e s k hk⟩

set_option maxHeartbeats 800000 in
theorem rrCount (lo p : Nat) (st : RSt) (m : Int) (w : World) (h : RRd w lo p st) :
    Calls Tryd.prog 73 #[.pointer (some ⟨p, 0, none⟩), .int .i64 m] w (RRres lo p (.int .i64 (rCount st m).1) (rCount st m).2 w) := by
  generalize hR : rCount st m = R
  have HR := Lib.hid hR
  clear hR
  obtain ⟨n, st', hn⟩ : ∃ n st', rInt st = (n, st') := ⟨_, _, rfl⟩
  have hI := fun W (hW : RRd W lo p st) => rrInt lo p st W hW
  rw [hn] at hI
  have HI := Lib.hid hI
  have HR2 : Hid (R = if n < 0 ∨ m < n then (0, none) else (n, st')) := by show _ = _; rw [← HR.out]; simp only [rCount, hn]
  clear hI hn HR
  by_cases h1 : n < 0
  · go_enter Tryd.func73, Tryd.ntmps73
    go_wp2_with (first | (go_at_call 72; refine (HI.out _ h).mono ?_; rintro e w1 ⟨rfl, q1, q2, q3⟩; have Q3 := Lib.hid q3; clear q3) | (go_at_call 99; refine (rrFail lo p _ _ q1).mono ?_; rintro e w2 ⟨rfl, s1, s2, s3⟩; have S3 := Lib.hid s3; clear s3))
    go_ret
    have e := HR2.out
    rw [if_pos (.inl h1)] at e
    exact ⟨by rw [e]; rfl, by rw [e]; exact s1, q2.then s2, S3.out.trans Q3.out⟩
  · by_cases h2 : m < n
    · have h1' : 0 ≤ n := by omega
      go_enter Tryd.func73, Tryd.ntmps73
      go_wp2_with (first | (go_at_call 72; refine (HI.out _ h).mono ?_; rintro e w1 ⟨rfl, q1, q2, q3⟩; have Q3 := Lib.hid q3; clear q3) | (go_at_call 99; refine (rrFail lo p _ _ q1).mono ?_; rintro e w2 ⟨rfl, s1, s2, s3⟩; have S3 := Lib.hid s3; clear s3))
      go_ret
      have e := HR2.out
      rw [if_pos (.inr h2)] at e
      exact ⟨by rw [e]; rfl, by rw [e]; exact s1, q2.then s2, S3.out.trans Q3.out⟩
    · have h1' : 0 ≤ n := by omega
      have h2' : n ≤ m := by omega
      go_enter Tryd.func73, Tryd.ntmps73
      go_wp2_with (go_at_call 72; refine (HI.out _ h).mono ?_; rintro e w1 ⟨rfl, q1, q2, q3⟩; have Q3 := Lib.hid q3; clear q3)
      go_ret
      have e := HR2.out
      rw [if_neg (by omega)] at e
      exact ⟨by rw [e]; rfl, by rw [e]; exact q1, q2, Q3⟩

theorem rBytes_eq (st : RSt) (m : Int) : rBytes st m = if (rInt st).1 < 0 ∨ m < (rInt st).1 ∨ (((rInt st).2.getD []).length : Int) < (rInt st).1 then ([], none) else (((rInt st).2.getD []).take (rInt st).1.toNat, (rInt st).2.map (·.drop (rInt st).1.toNat)) := by
  simp only [rBytes, rCount]
  obtain ⟨n, st', hn⟩ : ∃ n st', rInt st = (n, st') := ⟨_, _, rfl⟩
  rw [hn]
  by_cases h : n < 0 ∨ m < n
  · have h2 : n < 0 ∨ m < n ∨ ((st'.getD []).length : Int) < n := by omega
    simp only [if_pos h, if_pos h2, tk]
  · simp only [if_neg h]
    cases st' with
    | none =>
      simp only [tk, Option.getD_none, List.length_nil, Option.map_none, List.take_nil]
      split <;> rfl
    | some l =>
      simp only [tk, Option.getD_some, Option.map_some]
      by_cases h3 : (l.length : Int) < n
      · rw [if_neg (by omega), if_pos (by omega)]
      · rw [if_pos (by omega), if_neg (by omega)]

/-- What Bytes answers: new memory. -/
def RRresB (lo p : Nat) (l : List UInt8) (st : RSt) (w : World) (e : Ending) (w' : World) : Prop :=
  ∃ A c, e = .returned (.slice A l.length c) ∧ l.length ≤ c ∧ c ≤ maxLen ∧ Rd w' w.heap.size w'.heap.size A l ∧ RRd w' lo p st ∧ Fr (OneB p) w w'

set_option maxHeartbeats 800000 in
theorem rrNew (A : Option Addr) (l : List UInt8) (c lo hi : Nat) (w : World) (hr : Rd w lo hi A l) (hh : hi ≤ w.heap.size) (hlim : l.length ≤ 140737488355328) :
    Calls Tryd.prog 54 #[.slice A l.length c] w fun e w' => ∃ p, e = .returned (.pointer (some ⟨p, 0, none⟩)) ∧ w.heap.size ≤ p ∧ RRd w' w.heap.size p (some l) ∧ Fr NoB w w' ∧ w'.heap.size = p + 1 := by
  obtain ⟨i0, hi0, hz0, hz1, hz2⟩ := info_parts info_byte
  have hr2 : Rd (w.alloc (.cells #[] 5)) lo hi A l := hr.fr ((Fr.refl NoB w).alloc _) hh fun _ _ _ x => x
  have ho2 := World.ownsRow_lit (size := 1) (base := w.heap.size) (e := 5) w #[] 0 (Nat.le_refl _) (by unfold maxLen; omega) rfl
  have HO2 := Lib.hid ho2
  have HS := Lib.hid hr2.srcs
  clear ho2 hr2
  go_enter Tryd.func54, Tryd.ntmps54
  go_wp2_with (at_builtin; refine wpList_append_src _ rfl _ _ 37 rfl w.heap.size 5 i0 (.int .u8 0) 1 1 Tryd.underlying37 hi0 hz0 hz1 hz2 rfl (by decide) _ _ _ rfl HO2.out A l.length c (bv l) rfl (by simp) HS.out (bv_one _) (by unfold maxLen; omega) (by omega) (by simp) ?_)
  intro v' w1 ha
  have f : Fr NoB w w1 := ((Fr.refl NoB w).alloc _).trans ha.fr fun k hk h => by simp only [Value.ownBlock, Option.some.injEq] at h; omega
  obtain ⟨A2, c2, rfl, h1, h2, hr1⟩ := (show App w.heap.size 5 1 _ (0 + l.length) (bv l) _ v' w1 by simpa using ha).rd
  clear ha
  have hr3 : Rd (w1.alloc (.cells #[.slice A2 l.length c2, .bool false] 124)) w.heap.size w1.heap.size A2 l := hr1.keep fun k _ hk => Below.heap_alloc _ _ _ hk
  go_wp2
  go_ret
  exact ⟨_, rfl, f.size, ⟨A2, c2, heap_alloc_new w1 _, h1, h2, hr3⟩, f.alloc _, by simp⟩

end Go.Proofs.YtbgpgaekckfjlaaDoor
