/-
  Reads: WireReads's walk: of any bytes, any questions, the statement is true.
-/
import Derived.Test.YtmklmjggichfhaaDoorAwk
import Derived.Test.YtmklmjggichfhaaDoorRfs
namespace Go.Proofs.YtmklmjggichfhaaDoor
open Go.RowKit

/-- Two readers of one state, the second made behind the first. -/
structure Two (B : Nat) (w0 w : World) (lo p lo' p' : Nat) (st : RSt) : Prop where
  a : Rdr w lo p st
  b : RRd w lo' p' st
  fr : Fr NoB w0 w
  lim : RLim st
  i : w0.heap.size ≤ lo
  j : lo ≤ p
  k : p < lo'
  l : lo' ≤ p'

theorem Two.mid {B : Nat} {w0 w w1 : World} {lo p lo' p' : Nat} {st : RSt} (h : Two B w0 w lo p lo' p' st) (f : Fr (OneB p) w w1) : RRd w1 lo' p' st :=
  h.b.fr f (fun k hk _ => by have := h.k; simp only [OneB]; omega) h.l
theorem Two.next {B : Nat} {w0 w w1 w2 : World} {lo p lo' p' : Nat} {st st' : RSt} (h : Two B w0 w lo p lo' p' st) (f1 : Fr (OneB p) w w1) (a : Rdr w1 lo p st') (f2 : Fr (OneB p') w1 w2) (b : RRd w2 lo' p' st') (l : RLim st') : Two B w0 w2 lo p lo' p' st' where
  a := a.fr f2 (fun k _ hk => by have := h.k; have := h.l; simp only [OneB]; omega) h.j
  b := b
  fr := by
    have h1 := h.i
    have h2 := h.j
    have h3 := h.k
    have h4 := h.l
    exact (h.fr.up f1 (fun k hk => by simp only [OneB] at hk; omega)).up f2 (fun k hk => by simp only [OneB] at hk; omega)
  lim := l
  i := h.i
  j := h.j
  k := h.k
  l := h.l
theorem Two.drewN {B : Nat} {w0 w : World} {lo p lo' p' : Nat} {st : RSt} (h : Two B w0 w lo p lo' p' st) (n : Nat) : Two B w0 (w.drewN n) lo p lo' p' st :=
  ⟨h.a.fr ((Fr.refl NoB w).drewN n) (fun _ _ _ x => x) h.j, h.b.fr ((Fr.refl NoB w).drewN n) (fun _ _ _ x => x) h.l, h.fr.drewN n, h.lim, h.i, h.j, h.k, h.l⟩

/-- The questions' cells: a sort and a number in each. -/
def Dds (w : World) (A : Option Addr) (n : Nat) : Prop :=
  0 < n → ∃ b o, A = some ⟨b, o, none⟩ ∧ b < w.heap.size ∧ ∀ i, i < n → ∃ s m : Int, w.cell? ⟨b, o + i * 3, none⟩ = some (.int .i64 s) ∧ w.cell? ⟨b, o + i * 3 + 1, none⟩ = some (.int .i64 m)

theorem rBytes_lim {st : RSt} {m : Int} (h : RLim st) : RLim (rBytes st m).2 := (tk_lim (n := (rCount st m).1) (rCount_lim (m := m) h)).1
theorem rByte_lim {st : RSt} (h : RLim st) : RLim (rByte st).2 := by rw [(take1 st).1]; exact (tk_lim (n := 1) h).1

set_option maxRecDepth 8000 in
set_option maxHeartbeats 6400000 in
theorem reads_small (A : Option Addr) (l : List UInt8) (c : Nat) (D : Option Addr) (n d : Nat) (w : World) (h : Rd w 0 w.heap.size A l) (hm : l.length ≤ 140737488355328) (hd : Dds w D n) (hn : n ≤ 60) :
    Calls Tryd.prog 4 #[.slice A l.length c, .slice D n d] w fun e w' => e = .returned (.bool true) ∧ Below w.heap.size w w' := by
  have hnn : ((n : Int) ≤ 60) := by omega
  go_enter Tryd.func4, Tryd.ntmps4
  go_wp2_with (first
    | (go_at_call 12; refine (rNew_calls A l c 0 _ _ h hm).mono ?_; rintro e w1 ⟨p, rfl, q1, q2, q3, q4⟩; have Q3 := Lib.hid q3; clear q3)
    | (go_at_call 19; refine (rrNew A l c 0 _ _ (h.fr Q3.out (Nat.le_refl _) (fun _ _ _ x => x)) Q3.out.size hm).mono ?_; rintro e w2 ⟨p', rfl, s1, s2, s3, s4⟩; have S3 := Lib.hid s3; clear s3))
  have t0 : Two 0 w w2 w.heap.size p w1.heap.size p' (some l) :=
    ⟨q2.fr S3.out (fun _ _ _ x => x) q1, s2, Q3.out.then S3.out, hm, Nat.le_refl _, q1, by omega, s1⟩
  clear q2 s2 hm h
  go_loopw [4, 7] (fun r i wr => r = .bool false ∧ ∃ (k : Nat) (st : RSt), k ≤ n ∧ i = .int .i64 (k : Int) ∧ Two 0 w wr w.heap.size p w1.heap.size p' st) (fun _ i _ => n - (intOf i).toNat)
  case atStart => exact ⟨rfl, 0, _, Nat.zero_le _, rfl, t0⟩
  case round =>
    obtain ⟨rfl, k, st, hk, rfl, ht⟩ := hrel
    have HT := Lib.hid ht
    clear ht
    by_cases hlt : k < n
    · obtain ⟨b, o, rfl, hb, hcs⟩ := hd (by omega)
      obtain ⟨s, m, hc0, hc1⟩ := hcs k (by omega)
      clear hcs
      have hw0 := (HT.out.fr.cell (p := ⟨b, o + k * 3, none⟩) hb (fun x => x)).trans hc0
      have hw1 := (HT.out.fr.cell (p := ⟨b, o + k * 3 + 1, none⟩) hb (fun x => x)).trans hc1
      clear hc0 hc1
      have hK := fun W => pick_calls s 5 W (by omega) (by omega)
      have hi1 : ((k : Int) < (n : Int)) := by omega
      obtain ⟨t, ht⟩ : ∃ t, s % 5 = t := ⟨_, rfl⟩
      have h5 : t = 0 ∨ t = 1 ∨ t = 2 ∨ t = 3 ∨ t = 4 := by omega
      rw [ht] at hK
      clear ht
      rcases h5 with rfl | rfl | rfl | rfl | rfl
      all_goals have HK := Lib.hid hK; clear hK
      · go_wp2_with (first
          | (go_at_call 20; refine (HK.out _).mono ?_; rintro e w0 ⟨rfl, rfl⟩)
          | (go_at_call 21; refine (rByte_calls _ _ _ _ HT.out.a).mono ?_; rintro e w1 ⟨rfl, q1, q2, -⟩; have B1 := HT.out.mid q2; have Q2 := Lib.hid q2; clear q2)
          | (go_at_call 22; refine (rrByte _ _ _ _ B1).mono ?_; rintro e w2 ⟨rfl, s1, s2, -⟩; have T2 := HT.out.next Q2.out q1 s2 s1 (rByte_lim HT.out.lim); clear s1 s2 q1 B1)
          | (go_at_call 14; refine (rGood_calls _ _ _ _ T2.a).mono ?_; rintro e w4 ⟨rfl, rfl⟩)
          | (go_at_call 30; refine (rrGood _ _ _ _ T2.b).mono ?_; rintro e w5 ⟨rfl, rfl⟩)
          | (go_at_call 31; refine (rWhole_calls _ _ _ _ T2.a).mono ?_; rintro e w6 ⟨rfl, rfl⟩)
          | (go_at_call 32; refine (rrWhole _ _ _ _ T2.b).mono ?_; rintro e w7 ⟨rfl, rfl⟩))
        go_roundw
        case rel => exact ⟨rfl, k + 1, _, by omega, by go_num, T2⟩
        case measure => simp [intOf]; omega
      · go_wp2_with (first
          | (go_at_call 20; refine (HK.out _).mono ?_; rintro e w0 ⟨rfl, rfl⟩)
          | (go_at_call 13; refine (rInt_calls _ _ _ _ HT.out.a).mono ?_; rintro e w1 ⟨rfl, q1, q2, -⟩; have B1 := HT.out.mid q2; have Q2 := Lib.hid q2; clear q2)
          | (go_at_call 23; refine (rrInt _ _ _ _ B1).mono ?_; rintro e w2 ⟨rfl, s1, s2, -⟩; have T2 := HT.out.next Q2.out q1 s2 s1 (rInt_lim HT.out.lim); clear s1 s2 q1 B1)
          | (go_at_call 14; refine (rGood_calls _ _ _ _ T2.a).mono ?_; rintro e w4 ⟨rfl, rfl⟩)
          | (go_at_call 30; refine (rrGood _ _ _ _ T2.b).mono ?_; rintro e w5 ⟨rfl, rfl⟩)
          | (go_at_call 31; refine (rWhole_calls _ _ _ _ T2.a).mono ?_; rintro e w6 ⟨rfl, rfl⟩)
          | (go_at_call 32; refine (rrWhole _ _ _ _ T2.b).mono ?_; rintro e w7 ⟨rfl, rfl⟩))
        go_roundw
        case rel => exact ⟨rfl, k + 1, _, by omega, by go_num, T2⟩
        case measure => simp [intOf]; omega
      · go_wp2_with (first
          | (go_at_call 20; refine (HK.out _).mono ?_; rintro e w0 ⟨rfl, rfl⟩)
          | (go_at_call 24; refine (rText_calls _ _ _ m _ HT.out.a).mono ?_; rintro e w1 ⟨rfl, q1, q2, -⟩; have B1 := HT.out.mid q2; have Q2 := Lib.hid q2; clear q2)
          | (go_at_call 25; refine (rrText _ _ _ m _ B1).mono ?_; rintro e w2 ⟨rfl, s1, s2, -⟩; have T2 := HT.out.next Q2.out q1 s2 s1 (rBytes_lim HT.out.lim); clear s1 s2 q1 B1)
          | (go_at_call 14; refine (rGood_calls _ _ _ _ T2.a).mono ?_; rintro e w4 ⟨rfl, rfl⟩)
          | (go_at_call 30; refine (rrGood _ _ _ _ T2.b).mono ?_; rintro e w5 ⟨rfl, rfl⟩)
          | (go_at_call 31; refine (rWhole_calls _ _ _ _ T2.a).mono ?_; rintro e w6 ⟨rfl, rfl⟩)
          | (go_at_call 32; refine (rrWhole _ _ _ _ T2.b).mono ?_; rintro e w7 ⟨rfl, rfl⟩))
        go_roundw
        case rel => exact ⟨rfl, k + 1, _, by omega, by go_num, T2⟩
        case measure => simp [intOf]; omega
      · go_wp2_with (first
          | (go_at_call 20; refine (HK.out _).mono ?_; rintro e w0 ⟨rfl, rfl⟩)
          | (go_at_call 26; refine (rBytes_calls _ _ _ m _ HT.out.a HT.out.j HT.out.lim).mono ?_; rintro e w1 ⟨v1, rfl, o1, q1, q2⟩; obtain ⟨A1, c1, rfl, _, _⟩ := own_form o1; have R1 := own_rd o1; have B1 := HT.out.mid q2; have Q2 := Lib.hid q2; clear q2 o1)
          | (go_at_call 27; refine (rrBytes _ _ _ m _ B1 HT.out.l HT.out.lim).mono ?_; rintro e w2 ⟨A2, c2, rfl, _, _, R2, s1, s2⟩; have S2 := Lib.hid s2; have T2 := HT.out.next Q2.out q1 s2 s1 (rBytes_lim HT.out.lim); clear s1 s2 q1 B1))
        have HL := (tk_lim (n := (rCount st m).1) (rCount_lim (m := m) HT.out.lim)).2
        have R1b := R1.fr S2.out (Nat.le_refl _) (fun k h1 h2 => by have := HT.out.b.lt; simp only [OneB]; omega)
        refine (same_calls _ _ _ _ _ _ _ _ _ _ _ R1b R2 HL HL).mono ?_
        rintro e w3 ⟨rfl, n3, rfl⟩
        have T2 := T2.drewN n3
        go_wp2_with (first
          | (go_at_call 14; refine (rGood_calls _ _ _ _ T2.a).mono ?_; rintro e w4 ⟨rfl, rfl⟩)
          | (go_at_call 30; refine (rrGood _ _ _ _ T2.b).mono ?_; rintro e w5 ⟨rfl, rfl⟩)
          | (go_at_call 31; refine (rWhole_calls _ _ _ _ T2.a).mono ?_; rintro e w6 ⟨rfl, rfl⟩)
          | (go_at_call 32; refine (rrWhole _ _ _ _ T2.b).mono ?_; rintro e w7 ⟨rfl, rfl⟩))
        go_roundw
        case rel => exact ⟨rfl, k + 1, _, by omega, by go_num, T2⟩
        case measure => simp [intOf]; omega
      · go_wp2_with (first
          | (go_at_call 20; refine (HK.out _).mono ?_; rintro e w0 ⟨rfl, rfl⟩)
          | (go_at_call 28; refine (rCount_calls _ _ _ m _ HT.out.a).mono ?_; rintro e w1 ⟨rfl, q1, q2, -⟩; have B1 := HT.out.mid q2; have Q2 := Lib.hid q2; clear q2)
          | (go_at_call 29; refine (rrCount _ _ _ m _ B1).mono ?_; rintro e w2 ⟨rfl, s1, s2, -⟩; have T2 := HT.out.next Q2.out q1 s2 s1 (rCount_lim HT.out.lim); clear s1 s2 q1 B1)
          | (go_at_call 14; refine (rGood_calls _ _ _ _ T2.a).mono ?_; rintro e w4 ⟨rfl, rfl⟩)
          | (go_at_call 30; refine (rrGood _ _ _ _ T2.b).mono ?_; rintro e w5 ⟨rfl, rfl⟩)
          | (go_at_call 31; refine (rWhole_calls _ _ _ _ T2.a).mono ?_; rintro e w6 ⟨rfl, rfl⟩)
          | (go_at_call 32; refine (rrWhole _ _ _ _ T2.b).mono ?_; rintro e w7 ⟨rfl, rfl⟩))
        go_roundw
        case rel => exact ⟨rfl, k + 1, _, by omega, by go_num, T2⟩
        case measure => simp [intOf]; omega
    · go_wp2_with (go_at_call 11; refine (awake_calls _).mono ?_; rintro e w9 ⟨rfl, f9⟩)
      go_ret
      exact ⟨rfl, (HT.out.fr.then f9).toBelow'⟩

set_option maxRecDepth 8000 in
set_option maxHeartbeats 6400000 in
theorem reads_big (A : Option Addr) (l : List UInt8) (c : Nat) (D : Option Addr) (n d : Nat) (w : World) (h : Rd w 0 w.heap.size A l) (hm : l.length ≤ 140737488355328) (hd : Dds w D n) (hn : 60 < n) (hnd : n ≤ d) (hdm : d ≤ maxLen) :
    Calls Tryd.prog 4 #[.slice A l.length c, .slice D n d] w fun e w' => e = .returned (.bool true) ∧ Below w.heap.size w w' := by
  obtain ⟨b, o, rfl, hb, hcs⟩ := hd (by omega)
  have HCS := Lib.hid hcs
  clear hcs hd
  have hdm' : (d : Int) ≤ 9223372036854775807 := by unfold maxLen at hdm; omega
  have hnn : (60 < (n : Int)) := by omega
  have hnd1 : ((60 : Int) ≤ (n : Int)) := by omega
  have hnd2 : ((60 : Int) ≤ (d : Int)) := by omega
  have hnd3 : ((n : Int) ≤ (d : Int)) := by omega
  have hnd4 : 60 ≤ d := by omega
  go_enter Tryd.func4, Tryd.ntmps4
  go_wp2_with (first
    | (go_at_call 12; refine (rNew_calls A l c 0 _ _ h hm).mono ?_; rintro e w1 ⟨p, rfl, q1, q2, q3, q4⟩; have Q3 := Lib.hid q3; clear q3)
    | (go_at_call 19; refine (rrNew A l c 0 _ _ (h.fr Q3.out (Nat.le_refl _) (fun _ _ _ x => x)) Q3.out.size hm).mono ?_; rintro e w2 ⟨p', rfl, s1, s2, s3, s4⟩; have S3 := Lib.hid s3; clear s3))
  have t0 : Two 0 w w2 w.heap.size p w1.heap.size p' (some l) :=
    ⟨q2.fr S3.out (fun _ _ _ x => x) q1, s2, Q3.out.then S3.out, hm, Nat.le_refl _, q1, by omega, s1⟩
  clear q2 s2 hm h hdm hdm'
  go_loopw [4, 7] (fun r i wr => r = .bool false ∧ ∃ (k : Nat) (st : RSt), k ≤ 60 ∧ i = .int .i64 (k : Int) ∧ Two 0 w wr w.heap.size p w1.heap.size p' st) (fun _ i _ => 60 - (intOf i).toNat)
  case atStart => exact ⟨rfl, 0, _, Nat.zero_le _, rfl, t0⟩
  case round =>
    obtain ⟨rfl, k, st, hk, rfl, ht⟩ := hrel
    have HT := Lib.hid ht
    clear ht
    by_cases hlt : k < 60
    · obtain ⟨s, m, hc0, hc1⟩ := HCS.out k (by omega)
      have hw0 := (HT.out.fr.cell (p := ⟨b, o + k * 3, none⟩) hb (fun x => x)).trans hc0
      have hw1 := (HT.out.fr.cell (p := ⟨b, o + k * 3 + 1, none⟩) hb (fun x => x)).trans hc1
      clear hc0 hc1
      have hK := fun W => pick_calls s 5 W (by omega) (by omega)
      have hi1 : ((k : Int) < 60) := by omega
      obtain ⟨t, ht⟩ : ∃ t, s % 5 = t := ⟨_, rfl⟩
      have h5 : t = 0 ∨ t = 1 ∨ t = 2 ∨ t = 3 ∨ t = 4 := by omega
      rw [ht] at hK
      clear ht
      rcases h5 with rfl | rfl | rfl | rfl | rfl
      all_goals have HK := Lib.hid hK; clear hK
      · go_wp2_with (first
          | (go_at_call 20; refine (HK.out _).mono ?_; rintro e w0 ⟨rfl, rfl⟩)
          | (go_at_call 21; refine (rByte_calls _ _ _ _ HT.out.a).mono ?_; rintro e w1 ⟨rfl, q1, q2, -⟩; have B1 := HT.out.mid q2; have Q2 := Lib.hid q2; clear q2)
          | (go_at_call 22; refine (rrByte _ _ _ _ B1).mono ?_; rintro e w2 ⟨rfl, s1, s2, -⟩; have T2 := HT.out.next Q2.out q1 s2 s1 (rByte_lim HT.out.lim); clear s1 s2 q1 B1)
          | (go_at_call 14; refine (rGood_calls _ _ _ _ T2.a).mono ?_; rintro e w4 ⟨rfl, rfl⟩)
          | (go_at_call 30; refine (rrGood _ _ _ _ T2.b).mono ?_; rintro e w5 ⟨rfl, rfl⟩)
          | (go_at_call 31; refine (rWhole_calls _ _ _ _ T2.a).mono ?_; rintro e w6 ⟨rfl, rfl⟩)
          | (go_at_call 32; refine (rrWhole _ _ _ _ T2.b).mono ?_; rintro e w7 ⟨rfl, rfl⟩))
        go_roundw
        case rel => exact ⟨rfl, k + 1, _, by omega, by go_num, T2⟩
        case measure => simp [intOf]; omega
      · go_wp2_with (first
          | (go_at_call 20; refine (HK.out _).mono ?_; rintro e w0 ⟨rfl, rfl⟩)
          | (go_at_call 13; refine (rInt_calls _ _ _ _ HT.out.a).mono ?_; rintro e w1 ⟨rfl, q1, q2, -⟩; have B1 := HT.out.mid q2; have Q2 := Lib.hid q2; clear q2)
          | (go_at_call 23; refine (rrInt _ _ _ _ B1).mono ?_; rintro e w2 ⟨rfl, s1, s2, -⟩; have T2 := HT.out.next Q2.out q1 s2 s1 (rInt_lim HT.out.lim); clear s1 s2 q1 B1)
          | (go_at_call 14; refine (rGood_calls _ _ _ _ T2.a).mono ?_; rintro e w4 ⟨rfl, rfl⟩)
          | (go_at_call 30; refine (rrGood _ _ _ _ T2.b).mono ?_; rintro e w5 ⟨rfl, rfl⟩)
          | (go_at_call 31; refine (rWhole_calls _ _ _ _ T2.a).mono ?_; rintro e w6 ⟨rfl, rfl⟩)
          | (go_at_call 32; refine (rrWhole _ _ _ _ T2.b).mono ?_; rintro e w7 ⟨rfl, rfl⟩))
        go_roundw
        case rel => exact ⟨rfl, k + 1, _, by omega, by go_num, T2⟩
        case measure => simp [intOf]; omega
      · go_wp2_with (first
          | (go_at_call 20; refine (HK.out _).mono ?_; rintro e w0 ⟨rfl, rfl⟩)
          | (go_at_call 24; refine (rText_calls _ _ _ m _ HT.out.a).mono ?_; rintro e w1 ⟨rfl, q1, q2, -⟩; have B1 := HT.out.mid q2; have Q2 := Lib.hid q2; clear q2)
          | (go_at_call 25; refine (rrText _ _ _ m _ B1).mono ?_; rintro e w2 ⟨rfl, s1, s2, -⟩; have T2 := HT.out.next Q2.out q1 s2 s1 (rBytes_lim HT.out.lim); clear s1 s2 q1 B1)
          | (go_at_call 14; refine (rGood_calls _ _ _ _ T2.a).mono ?_; rintro e w4 ⟨rfl, rfl⟩)
          | (go_at_call 30; refine (rrGood _ _ _ _ T2.b).mono ?_; rintro e w5 ⟨rfl, rfl⟩)
          | (go_at_call 31; refine (rWhole_calls _ _ _ _ T2.a).mono ?_; rintro e w6 ⟨rfl, rfl⟩)
          | (go_at_call 32; refine (rrWhole _ _ _ _ T2.b).mono ?_; rintro e w7 ⟨rfl, rfl⟩))
        go_roundw
        case rel => exact ⟨rfl, k + 1, _, by omega, by go_num, T2⟩
        case measure => simp [intOf]; omega
      · go_wp2_with (first
          | (go_at_call 20; refine (HK.out _).mono ?_; rintro e w0 ⟨rfl, rfl⟩)
          | (go_at_call 26; refine (rBytes_calls _ _ _ m _ HT.out.a HT.out.j HT.out.lim).mono ?_; rintro e w1 ⟨v1, rfl, o1, q1, q2⟩; obtain ⟨A1, c1, rfl, _, _⟩ := own_form o1; have R1 := own_rd o1; have B1 := HT.out.mid q2; have Q2 := Lib.hid q2; clear q2 o1)
          | (go_at_call 27; refine (rrBytes _ _ _ m _ B1 HT.out.l HT.out.lim).mono ?_; rintro e w2 ⟨A2, c2, rfl, _, _, R2, s1, s2⟩; have S2 := Lib.hid s2; have T2 := HT.out.next Q2.out q1 s2 s1 (rBytes_lim HT.out.lim); clear s1 s2 q1 B1))
        have HL := (tk_lim (n := (rCount st m).1) (rCount_lim (m := m) HT.out.lim)).2
        have R1b := R1.fr S2.out (Nat.le_refl _) (fun k h1 h2 => by have := HT.out.b.lt; simp only [OneB]; omega)
        refine (same_calls _ _ _ _ _ _ _ _ _ _ _ R1b R2 HL HL).mono ?_
        rintro e w3 ⟨rfl, n3, rfl⟩
        have T2 := T2.drewN n3
        go_wp2_with (first
          | (go_at_call 14; refine (rGood_calls _ _ _ _ T2.a).mono ?_; rintro e w4 ⟨rfl, rfl⟩)
          | (go_at_call 30; refine (rrGood _ _ _ _ T2.b).mono ?_; rintro e w5 ⟨rfl, rfl⟩)
          | (go_at_call 31; refine (rWhole_calls _ _ _ _ T2.a).mono ?_; rintro e w6 ⟨rfl, rfl⟩)
          | (go_at_call 32; refine (rrWhole _ _ _ _ T2.b).mono ?_; rintro e w7 ⟨rfl, rfl⟩))
        go_roundw
        case rel => exact ⟨rfl, k + 1, _, by omega, by go_num, T2⟩
        case measure => simp [intOf]; omega
      · go_wp2_with (first
          | (go_at_call 20; refine (HK.out _).mono ?_; rintro e w0 ⟨rfl, rfl⟩)
          | (go_at_call 28; refine (rCount_calls _ _ _ m _ HT.out.a).mono ?_; rintro e w1 ⟨rfl, q1, q2, -⟩; have B1 := HT.out.mid q2; have Q2 := Lib.hid q2; clear q2)
          | (go_at_call 29; refine (rrCount _ _ _ m _ B1).mono ?_; rintro e w2 ⟨rfl, s1, s2, -⟩; have T2 := HT.out.next Q2.out q1 s2 s1 (rCount_lim HT.out.lim); clear s1 s2 q1 B1)
          | (go_at_call 14; refine (rGood_calls _ _ _ _ T2.a).mono ?_; rintro e w4 ⟨rfl, rfl⟩)
          | (go_at_call 30; refine (rrGood _ _ _ _ T2.b).mono ?_; rintro e w5 ⟨rfl, rfl⟩)
          | (go_at_call 31; refine (rWhole_calls _ _ _ _ T2.a).mono ?_; rintro e w6 ⟨rfl, rfl⟩)
          | (go_at_call 32; refine (rrWhole _ _ _ _ T2.b).mono ?_; rintro e w7 ⟨rfl, rfl⟩))
        go_roundw
        case rel => exact ⟨rfl, k + 1, _, by omega, by go_num, T2⟩
        case measure => simp [intOf]; omega
    · go_wp2_with (go_at_call 11; refine (awake_calls _).mono ?_; rintro e w9 ⟨rfl, f9⟩)
      go_ret
      exact ⟨rfl, (HT.out.fr.then f9).toBelow'⟩

/-- The walk. -/
theorem reads_walk (A : Option Addr) (l : List UInt8) (c : Nat) (D : Option Addr) (n d : Nat) (w : World) (h : Rd w 0 w.heap.size A l) (hm : l.length ≤ 140737488355328) (hd : Dds w D n) (hnd : n ≤ d) (hdm : d ≤ maxLen) :
    Calls Tryd.prog 4 #[.slice A l.length c, .slice D n d] w fun e w' => e = .returned (.bool true) ∧ Below w.heap.size w w' := by
  by_cases hn : 60 < n
  · exact reads_big A l c D n d w h hm hd hn hnd hdm
  · exact reads_small A l c D n d w h hm hd (by omega)

end Go.Proofs.YtmklmjggichfhaaDoor
