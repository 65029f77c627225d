/-
  Rdb: Count, Bytes, Text, Whole of wire.Reader, and NewReader.
-/
import Derived.Test.YtljioepkbbbibaaDoorRdr
namespace Go.Proofs.YtljioepkbbbibaaDoor
open Go.RowKit

set_option maxHeartbeats 800000 in
theorem rCount_calls (lo p : Nat) (st : RSt) (m : Int) (w : World) (h : Rdr w lo p st) :
    Calls Tryd.prog 72 #[.pointer (some ⟨p, 0, none⟩), .int .i64 m] w (Rres lo p (.int .i64 (rCount st m).1) (rCount st m).2 w) := by
  generalize hR : rCount st m = R
  have HR := Lib.hid hR
  clear hR
  obtain ⟨n, st', hn⟩ : ∃ n st', rInt st = (n, st') := ⟨_, _, rfl⟩
  have hI := fun W (hW : Rdr W lo p st) => rInt_calls lo p st W hW
  rw [hn] at hI
  have HI := Lib.hid hI
  have HR2 : Hid (R = if n < 0 ∨ m < n then (0, none) else (n, st')) := by show _ = _; rw [← HR.out]; simp only [rCount, hn]
  clear hI hn HR
  by_cases h1 : n < 0
  · go_enter Tryd.func72, Tryd.ntmps72
    go_wp2_with (first | (go_at_call 38; refine (HI.out _ h).mono ?_; rintro e w1 ⟨rfl, q1, q2, q3⟩; have Q3 := Lib.hid q3; clear q3) | (go_at_call 68; refine (rFail_calls lo p _ _ q1).mono ?_; rintro e w2 ⟨rfl, s1, s2, s3⟩; have S3 := Lib.hid s3; clear s3))
    go_ret
    have e := HR2.out
    rw [if_pos (.inl h1)] at e
    exact ⟨by rw [e]; rfl, by rw [e]; exact s1, q2.then s2, S3.out.trans Q3.out⟩
  · by_cases h2 : m < n
    · have h1' : 0 ≤ n := by omega
      go_enter Tryd.func72, Tryd.ntmps72
      go_wp2_with (first | (go_at_call 38; refine (HI.out _ h).mono ?_; rintro e w1 ⟨rfl, q1, q2, q3⟩; have Q3 := Lib.hid q3; clear q3) | (go_at_call 68; refine (rFail_calls lo p _ _ q1).mono ?_; rintro e w2 ⟨rfl, s1, s2, s3⟩; have S3 := Lib.hid s3; clear s3))
      go_ret
      have e := HR2.out
      rw [if_pos (.inr h2)] at e
      exact ⟨by rw [e]; rfl, by rw [e]; exact s1, q2.then s2, S3.out.trans Q3.out⟩
    · have h1' : 0 ≤ n := by omega
      have h2' : n ≤ m := by omega
      go_enter Tryd.func72, Tryd.ntmps72
      go_wp2_with (go_at_call 38; refine (HI.out _ h).mono ?_; rintro e w1 ⟨rfl, q1, q2, q3⟩; have Q3 := Lib.hid q3; clear q3)
      go_ret
      have e := HR2.out
      rw [if_neg (by omega)] at e
      exact ⟨by rw [e]; rfl, by rw [e]; exact q1, q2, Q3⟩

/-- Bytes: new bytes. -/
def RresB (lo p : Nat) (l : List UInt8) (st : RSt) (w : World) (e : Ending) (w' : World) : Prop :=
  ∃ v, e = .returned v ∧ w'.ownsRow w.heap.size 5 1 v l.length (bv l) ∧ Rdr w' lo p st ∧ Fr (OneB p) w w'

def RLim : RSt → Prop
  | none => True
  | some l => l.length ≤ 140737488355328

theorem numAt_len {k acc u : Nat} {l r : List UInt8} (h : numAt k acc l = some (u, r)) : r.length < l.length := by
  induction l generalizing k acc with
  | nil => simp [numAt] at h
  | cons c l ih =>
    unfold numAt at h
    split at h
    · have := ih h; simp; omega
    · split at h
      · cases h
      · cases h; simp
theorem rInt_lim {st : RSt} (h : RLim st) : RLim (rInt st).2 := by
  cases st with
  | none => trivial
  | some l =>
    simp only [rInt]
    cases hn : numAt 0 0 l with
    | none => trivial
    | some x =>
      have := numAt_len (u := x.1) (r := x.2) hn
      simp only [RLim] at h ⊢; omega
theorem rCount_lim {st : RSt} {m : Int} (h : RLim st) : RLim (rCount st m).2 := by
  simp only [rCount]
  split
  · trivial
  · exact rInt_lim h
theorem tk_lim {st : RSt} {n : Int} (h : RLim st) : RLim (tk st n).2 ∧ (tk st n).1.length ≤ 140737488355328 := by
  cases st with
  | none => exact ⟨trivial, by simp [tk]⟩
  | some l =>
    simp only [RLim] at h
    simp only [tk]
    split
    · exact ⟨by simp [RLim]; omega, by simp; omega⟩
    · exact ⟨trivial, by simp⟩

set_option maxHeartbeats 800000 in
theorem rBytes_calls (lo p : Nat) (st : RSt) (m : Int) (w : World) (h : Rdr w lo p st) (hlo : lo ≤ p) (hl : RLim st) :
    Calls Tryd.prog 70 #[.pointer (some ⟨p, 0, none⟩), .int .i64 m] w (RresB lo p (rBytes st m).1 (rBytes st m).2 w) := by
  have hlt := h.lt
  have hl2 := (tk_lim (n := (rCount st m).1) (rCount_lim (m := m) hl)).2
  have HR : Hid (rBytes st m = tk (rCount st m).2 (rCount st m).1) := rfl
  go_enter Tryd.func70, Tryd.ntmps70
  go_wp2_with (go_at_call 72; refine (rCount_calls lo p st m _ h).mono ?_)
  rintro e w1 ⟨rfl, q1, q2, q3⟩
  have Q3 := Lib.hid q3; clear q3
  go_wp2_with (go_at_call 66; refine (rTake lo p _ _ _ q1).mono ?_)
  rintro e w2 ⟨A, c, rfl, k1, k2, k3, k4, k5, k6⟩
  have K6 := Lib.hid k6; clear k6
  go_wp2_with (go_at_call 62; refine (clone_any A _ c lo p _ k3 hl2).mono ?_)
  rintro e w3 ⟨v, rfl, o1, o2⟩
  obtain ⟨A2, c2, rfl, _, _⟩ := own_form o1
  have hsz : w2.heap.size = w.heap.size := K6.out.trans Q3.out
  have o3 : Rdr w3 lo p (tk (rCount st m).2 (rCount st m).1).2 := k4.fr (Fr.ofBelow (M := NoB) o2) (fun _ _ _ x => x) hlo
  rw [hsz] at o1
  have HF : Hid (Fr (OneB p) w w3) := (q2.then k5).trans (Fr.ofBelow (M := NoB) o2) fun _ _ x => x.elim
  clear q2 k5 o2 hsz
  go_wp2
  go_ret
  refine ⟨_, rfl, ?_, ?_, HF⟩ <;> rw [HR.out]
  · exact o1
  · exact o3

set_option maxHeartbeats 400000 in
theorem rWhole_calls (lo p : Nat) (st : RSt) (w : World) (h : Rdr w lo p st) :
    Calls Tryd.prog 40 #[.pointer (some ⟨p, 0, none⟩)] w fun e w' => e = .returned (.bool (rWhole st)) ∧ w = w' := by
  cases st with
  | none =>
    go_enter Tryd.func40, Tryd.ntmps40
    go_wp2_with (go_at_call 67; refine (rGood_calls lo p none _ h).mono ?_; rintro e w1 ⟨rfl, rfl⟩)
    go_ret
    exact ⟨rfl, rfl⟩
  | some l =>
    obtain ⟨A, c, hp, hl, hc, hr⟩ := id h
    have c0 := (cells_of hp 0).1
    simp only [List.getElem?_toArray, List.getElem?_cons_zero] at c0
    clear hp hr
    have hg : rGood (some l) = true := rfl
    cases l with
    | nil =>
      go_enter Tryd.func40, Tryd.ntmps40
      go_wp2_with (go_at_call 67; refine (rGood_calls lo p _ _ h).mono ?_; rintro e w1 ⟨rfl, rfl⟩)
      go_ret
      exact ⟨rfl, rfl⟩
    | cons x l =>
      have hb : ((x :: l).length == 0) = false := rfl
      go_enter Tryd.func40, Tryd.ntmps40
      go_wp2_with (go_at_call 67; refine (rGood_calls lo p _ _ h).mono ?_; rintro e w1 ⟨rfl, rfl⟩)
      go_ret
      refine ⟨?_, rfl⟩
      simp [rWhole]
      omega

set_option maxHeartbeats 800000 in
theorem rText_calls (lo p : Nat) (st : RSt) (m : Int) (w : World) (h : Rdr w lo p st) :
    Calls Tryd.prog 69 #[.pointer (some ⟨p, 0, none⟩), .int .i64 m] w (Rres lo p (.string ⟨(rBytes st m).1.toArray⟩) (rBytes st m).2 w) := by
  have HR : Hid (rBytes st m = tk (rCount st m).2 (rCount st m).1) := rfl
  go_enter Tryd.func69, Tryd.ntmps69
  go_wp2_with (go_at_call 72; refine (rCount_calls lo p st m _ h).mono ?_)
  rintro e w1 ⟨rfl, q1, q2, q3⟩
  have Q3 := Lib.hid q3; clear q3
  go_wp2_with (go_at_call 66; refine (rTake lo p _ _ _ q1).mono ?_)
  rintro e w2 ⟨A, c, rfl, k1, k2, k3, k4, k5, k6⟩
  have K6 := Lib.hid k6; clear k6
  have hconv : (convert 24 9 (.slice A (tk (rCount st m).2 (rCount st m).1).1.length c)).run Tryd.prog w2 = .ok (.string ⟨(tk (rCount st m).2 (rCount st m).1).1.toArray⟩) w2 := conv_string Tryd.underlying24 Tryd.underlying5 Tryd.underlying9 k3
  have Q2 := Lib.hid q2; clear q2
  clear k3
  go_wp2
  go_ret
  refine ⟨?_, ?_, Q2.out.then k5, K6.out.trans Q3.out⟩ <;> rw [HR.out]
  · rfl
  · exact k4

set_option maxHeartbeats 800000 in
theorem rNew_calls (A : Option Addr) (l : List UInt8) (c lo hi : Nat) (w : World) (hr : Rd w lo hi A l) (hlim : l.length ≤ 140737488355328) :
    Calls Tryd.prog 36 #[.slice A l.length c] w fun e w' => ∃ p, e = .returned (.pointer (some ⟨p, 0, none⟩)) ∧ w.heap.size ≤ p ∧ Rdr w' w.heap.size p (some l) ∧ Fr NoB w w' ∧ w'.heap.size = p + 1 := by
  go_enter Tryd.func36, Tryd.ntmps36
  go_wp2_with (go_at_call 62; refine (clone_any A l c lo hi _ hr hlim).mono ?_)
  rintro e w1 ⟨v, rfl, o1, o2⟩
  obtain ⟨A2, c2, rfl, h1, h2⟩ := own_form o1
  have hr1 := own_rd o1
  clear o1
  go_wp2
  go_ret
  refine ⟨_, rfl, o2.size, ⟨A2, c2, heap_alloc_new w1 _, h1, h2, ?_⟩, (Fr.ofBelow o2).alloc _, by simp⟩
  exact hr1.keep fun k _ hk => Below.heap_alloc _ _ _ hk

end Go.Proofs.YtljioepkbbbibaaDoor
