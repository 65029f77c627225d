/-
  Rfs: Count, Text, Bytes of the reference's Reader, and NewReader.
-/
import Derived.Test.YtmklmjggichfhaaGreatDoorRfr
import Derived.Lib.ConvBytes
namespace Go.Proofs.YtmklmjggichfhaaGreatDoor
open Go.RowKit

/-- '[]byte(s)': new memory that reads as the string's bytes. -/
theorem conv_bytes {P : Program} {src dst e : TypeId} {u : TypeDesc} (hs : P.underlying src = some u) (hd : P.underlying dst = some (.slice e)) (he : P.underlying e = some (.int .u8)) (w : World) (s : ByteArray) (hm : s.size ≤ maxLen) :
    ∃ A c w', (convert src dst (.string s)).run P w = .ok (.slice A s.size c) w' ∧ s.size ≤ c ∧ c ≤ maxLen ∧ Rd w' w.heap.size w'.heap.size A s.data.toList ∧ Fr NoB w w' := by
  refine ⟨_, _, _, Lib.run_convert_string_bytes w src dst e s hs hd he, grownCap_ge w _ 0 e, grownCap_le_maxLen w _ 0 e hm, fun _ => ⟨w.heap.size, 0, rfl, Nat.le_refl _, by rw [Lib.bytesWorld_size]; omega, fun i hi => ?_⟩, ?_⟩
  · rw [Nat.zero_add]
    exact Lib.bytesWorld_cell w e s i (by rw [Array.length_toList] at hi; exact hi)
  · exact ⟨rfl, rfl, rfl, by rw [Lib.bytesWorld_size]; omega, fun k hk _ => Lib.bytesWorld_at_old w e s k hk⟩

theorem rBytes_eq (st : RSt) (m : Int) : rBytes st m = if (rInt st).1 < 0 ∨ m < (rInt st).1 ∨ (((rInt st).2.getD []).length : Int) < (rInt st).1 then ([], none) else (((rInt st).2.getD []).take (rInt st).1.toNat, (rInt st).2.map (·.drop (rInt st).1.toNat)) := by
  simp only [rBytes, rCount]
  obtain ⟨n, st', hn⟩ : ∃ n st', rInt st = (n, st') := ⟨_, _, rfl⟩
  rw [hn]
  by_cases h : n < 0 ∨ m < n
  · have h2 : n < 0 ∨ m < n ∨ ((st'.getD []).length : Int) < n := by omega
    simp only [if_pos h, if_pos h2, tk]
  · simp only [if_neg h]
    cases st' with
    | none =>
      simp only [tk, Option.getD_none, List.length_nil, Option.map_none, List.take_nil]
      split <;> rfl
    | some l =>
      simp only [tk, Option.getD_some, Option.map_some]
      by_cases h3 : (l.length : Int) < n
      · rw [if_neg (by omega), if_pos (by omega)]
      · rw [if_pos (by omega), if_neg (by omega)]

set_option maxRecDepth 8000 in
set_option maxHeartbeats 1600000 in
theorem rrText (lo p : Nat) (st : RSt) (m : Int) (w : World) (h : RRd w lo p st) :
    Calls Tryz.prog 40 #[.pointer (some ⟨p, 0, none⟩), .int .i64 m] w (RRres lo p (.string ⟨(rBytes st m).1.toArray⟩) (rBytes st m).2 w) := by
  have HB : Hid _ := rBytes_eq st m
  obtain ⟨n, st', hn⟩ : ∃ n st', rInt st = (n, st') := ⟨_, _, rfl⟩
  have hI := fun W (hW : RRd W lo p st) => rrInt lo p st W hW
  rw [hn] at hI HB
  generalize rBytes st m = R at HB ⊢
  have HI := Lib.hid hI
  clear hI hn
  by_cases hbad : n < 0 ∨ m < n ∨ ((st'.getD []).length : Int) < n
  · have HR : Hid (R = ([], none)) := by have := HB.out; rw [if_pos hbad] at this; exact this
    clear HB
    by_cases h1 : n < 0
    · clear hbad
      go_enter Tryz.func40, Tryz.ntmps40
      go_wp2_with (first | (go_at_call 53; refine (HI.out _ h).mono ?_; rintro e w1 ⟨rfl, q1, q2, q3⟩; have Q3 := Lib.hid q3; clear q3; have hx := q1; obtain ⟨A, c, hp, hl, hc, hr⟩ := hx; have c0 := (cells_of hp 0).1; simp only [List.getElem?_toArray, List.getElem?_cons_zero] at c0; clear hp hr) | (go_at_call 54; refine (rrFail lo p _ _ q1).mono ?_; rintro e w2 ⟨rfl, s1, s2, s3⟩; have S3 := Lib.hid s3; clear s3))
      go_ret
      refine ⟨?_, ?_, q2.then s2, S3.out.trans Q3.out⟩ <;> rw [HR.out]
      · rfl
      · exact s1
    · have h0 : 0 ≤ n := by omega
      by_cases h2 : m < n
      · clear hbad h1
        go_enter Tryz.func40, Tryz.ntmps40
        go_wp2_with (first | (go_at_call 53; refine (HI.out _ h).mono ?_; rintro e w1 ⟨rfl, q1, q2, q3⟩; have Q3 := Lib.hid q3; clear q3; have hx := q1; obtain ⟨A, c, hp, hl, hc, hr⟩ := hx; have c0 := (cells_of hp 0).1; simp only [List.getElem?_toArray, List.getElem?_cons_zero] at c0; clear hp hr) | (go_at_call 54; refine (rrFail lo p _ _ q1).mono ?_; rintro e w2 ⟨rfl, s1, s2, s3⟩; have S3 := Lib.hid s3; clear s3))
        go_ret
        refine ⟨?_, ?_, q2.then s2, S3.out.trans Q3.out⟩ <;> rw [HR.out]
        · rfl
        · exact s1
      · have h3 : ((st'.getD []).length : Int) < n := by omega
        have h2' : n ≤ m := by omega
        clear hbad h1 h2
        go_enter Tryz.func40, Tryz.ntmps40
        go_wp2_with (first | (go_at_call 53; refine (HI.out _ h).mono ?_; rintro e w1 ⟨rfl, q1, q2, q3⟩; have Q3 := Lib.hid q3; clear q3; have hx := q1; obtain ⟨A, c, hp, hl, hc, hr⟩ := hx; have c0 := (cells_of hp 0).1; simp only [List.getElem?_toArray, List.getElem?_cons_zero] at c0; clear hp hr) | (go_at_call 54; refine (rrFail lo p _ _ q1).mono ?_; rintro e w2 ⟨rfl, s1, s2, s3⟩; have S3 := Lib.hid s3; clear s3))
        go_ret
        refine ⟨?_, ?_, q2.then s2, S3.out.trans Q3.out⟩ <;> rw [HR.out]
        · rfl
        · exact s1
  · have HR : Hid (R = ((st'.getD []).take n.toNat, st'.map (·.drop n.toNat))) := by have := HB.out; rw [if_neg hbad] at this; exact this
    clear HB
    obtain ⟨k, rfl⟩ := Int.eq_ofNat_of_zero_le (show 0 ≤ n by omega)
    have h2 : (k : Int) ≤ m := by omega
    have h3 : k ≤ (st'.getD []).length := by omega
    rw [Int.toNat_natCast] at HR
    clear hbad
    have hst2 : (st'.map (·.drop k)).getD [] = (st'.getD []).drop k := by cases st' <;> simp
    have hst3 : (!st'.isSome) = !(st'.map (·.drop k)).isSome := by cases st' <;> rfl
    have HS2 := Lib.hid hst2
    have HS3 := Lib.hid hst3
    clear hst2 hst3
    go_enter Tryz.func40, Tryz.ntmps40
    go_wp2_with (go_at_call 53; refine (HI.out _ h).mono ?_)
    rintro e w1 ⟨rfl, q1, q2, q3⟩
    have Q3 := Lib.hid q3
    clear q3
    obtain ⟨A, c, hp, hl, hc, hr⟩ := q1
    generalize hL : st'.getD [] = l at *
    have HLL := Lib.hid hL
    clear hL
    have c0 := (cells_of hp 0).1
    have f0 := (cells_of hp 0).2
    simp only [List.getElem?_toArray, List.getElem?_cons_zero] at c0
    have htl : (l.take k).length = k := by simp; omega
    have hconv := fun cc => conv_string (P := Tryz.prog) (c := cc) Tryz.underlying22 Tryz.underlying5 Tryz.underlying9 (hr.take (n := k))
    rw [htl] at hconv
    have hcut := fun A' c' p1 p2 hr' => rr_cut (lo := lo) (n := k) (A' := A') (c' := c') hp hc p1 p2 hr' (st'.map (·.drop k)) (by rw [HS2.out]) HS3.out
    have HCUT := Lib.hid hcut
    have HD := Lib.hid (Rd.drop (n := k) hr h3 hl)
    have hc' := hc
    unfold maxLen at hc'
    clear hcut hp hr htl
    go_wp2
    all_goals go_ret
    · refine ⟨?_, ?_⟩ <;> rw [HR.out]
      · rfl
      · have q := HCUT.out A 0 (by omega) (by omega) (by have := HD.out; rw [if_pos (by assumption)] at this; exact this)
        exact ⟨q.1, q2.then q.2.1, q.2.2.trans Q3.out⟩
    · refine ⟨?_, ?_⟩ <;> rw [HR.out]
      · rfl
      · have q := HCUT.out (A.map (·.add k)) (c - k) (by omega) (by omega) (by have := HD.out; rw [if_neg (by assumption)] at this; exact this)
        exact ⟨q.1, q2.then q.2.1, q.2.2.trans Q3.out⟩

/-- What Bytes answers: new memory. -/
def RRresB (lo p : Nat) (l : List UInt8) (st : RSt) (w : World) (e : Ending) (w' : World) : Prop :=
  ∃ A c, e = .returned (.slice A l.length c) ∧ l.length ≤ c ∧ c ≤ maxLen ∧ Rd w' w.heap.size w'.heap.size A l ∧ RRd w' lo p st ∧ Fr (OneB p) w w'

set_option maxRecDepth 8000 in
set_option maxHeartbeats 800000 in
theorem rrBytes (lo p : Nat) (st : RSt) (m : Int) (w : World) (h : RRd w lo p st) (hlo : lo ≤ p) (hl : RLim st) :
    Calls Tryz.prog 20 #[.pointer (some ⟨p, 0, none⟩), .int .i64 m] w (RRresB lo p (rBytes st m).1 (rBytes st m).2 w) := by
  have hl2 : (rBytes st m).1.length ≤ 140737488355328 := (tk_lim (n := (rCount st m).1) (rCount_lim (m := m) hl)).2
  obtain ⟨s, hs⟩ : ∃ s : ByteArray, s = ⟨(rBytes st m).1.toArray⟩ := ⟨_, rfl⟩
  have hs1 : s.size = (rBytes st m).1.length := by rw [hs]; rfl
  have hs2 : s.data.toList = (rBytes st m).1 := by rw [hs]
  have hT := fun W (hW : RRd W lo p st) => rrText lo p st m W hW
  rw [← hs] at hT
  have HT := Lib.hid hT
  have HS1 := Lib.hid hs1
  have HS2 := Lib.hid hs2
  clear hT hs hs1 hs2
  generalize rBytes st m = R at *
  go_enter Tryz.func20, Tryz.ntmps20
  go_wp2_with (go_at_call 40; refine (HT.out _ h).mono ?_; rintro e w1 ⟨rfl, q1, q2, q3⟩; have Q3 := Lib.hid q3; clear q3; obtain ⟨A, c, w2, hcv, k1, k2, k3, k4⟩ := conv_bytes (P := Tryz.prog) Tryz.underlying9 Tryz.underlying22 Tryz.underlying5 w1 s (by rw [HS1.out]; unfold maxLen; omega))
  go_ret
  rw [HS1.out] at k1
  rw [HS2.out, Q3.out] at k3
  have q4 : RRd w2 lo p R.2 := q1.fr k4 (fun _ _ _ x => x) hlo
  exact ⟨A, c, by rw [← HS1.out]; rfl, k1, k2, k3, q4, q2.trans k4 fun _ _ x => x.elim⟩

set_option maxRecDepth 8000 in
set_option maxHeartbeats 800000 in
theorem rrNew (A : Option Addr) (l : List UInt8) (c lo hi : Nat) (w : World) (hr : Rd w lo hi A l) (hh : hi ≤ w.heap.size) (hlim : l.length ≤ 140737488355328) :
    Calls Tryz.prog 18 #[.slice A l.length c] w fun e w' => ∃ p, e = .returned (.pointer (some ⟨p, 0, none⟩)) ∧ w.heap.size ≤ p ∧ RRd w' w.heap.size p (some l) ∧ Fr NoB w w' ∧ w'.heap.size = p + 1 := by
  obtain ⟨i0, hi0, hz0, hz1, hz2⟩ := info_parts info_byte
  have hr2 : Rd (w.alloc (.cells #[] 5)) lo hi A l := hr.fr ((Fr.refl NoB w).alloc _) hh fun _ _ _ x => x
  have ho2 := World.ownsRow_lit (size := 1) (base := w.heap.size) (e := 5) w #[] 0 (Nat.le_refl _) (by unfold maxLen; omega) rfl
  have HO2 := Lib.hid ho2
  have HS := Lib.hid hr2.srcs
  clear ho2 hr2
  go_enter Tryz.func18, Tryz.ntmps18
  go_wp2_with (at_builtin; refine wpList_append_src _ rfl _ _ 22 rfl w.heap.size 5 i0 (.int .u8 0) 1 1 Tryz.underlying22 hi0 hz0 hz1 hz2 rfl (by decide) _ _ _ rfl HO2.out A l.length c (bv l) rfl (by simp) HS.out (bv_one _) (by unfold maxLen; omega) (by omega) (by simp) ?_)
  intro v' w1 ha
  have f : Fr NoB w w1 := ((Fr.refl NoB w).alloc _).trans ha.fr fun k hk h => by simp only [Value.ownBlock, Option.some.injEq] at h; omega
  obtain ⟨A2, c2, rfl, h1, h2, hr1⟩ := (show App w.heap.size 5 1 _ (0 + l.length) (bv l) _ v' w1 by simpa using ha).rd
  clear ha
  have hr3 : Rd (w1.alloc (.cells #[.slice A2 l.length c2, .bool false] 72)) w.heap.size w1.heap.size A2 l := hr1.keep fun k _ hk => Below.heap_alloc _ _ _ hk
  go_wp2
  go_ret
  exact ⟨_, rfl, f.size, ⟨A2, c2, heap_alloc_new w1 _, h1, h2, hr3⟩, f.alloc _, by simp⟩

end Go.Proofs.YtmklmjggichfhaaGreatDoor
