/-
  Abe: Abd, Abe.
-/
import Derived.Test.YtlckgkpgllhpbaaDoorAbk
import Derived.Deep.MidRow
import Derived.Deep.WholeRow
import Derived.Laws.Rows
/- Abd -/
namespace Go.Proofs.YtlckgkpgllhpbaaDoor
open Go.RowKit

set_option maxHeartbeats 3200000 in
set_option maxRecDepth 8000 in
theorem abody1_calls (f : Fa) (p : Pl) (np pw : Nat) (G : Option Nat) (L : List UInt8) (lo hi : Nat) (w : World) (hf : f.Ok) (hw : Wtr w pw G L) (hp : ∀ k, WF pw G k → k < w.heap.size) (hpl : f.path.length ≤ 1000 ∧ f.data.length ≤ 1000) (hlim : L.length ≤ 1000000) (hD : Rd w lo hi p.A f.data) (_hh : hi ≤ w.heap.size) (hpn : ∀ k, lo ≤ k → k < hi → ¬ WF pw G k) (hk : f.k = 1) :
    Calls Tryd.prog 29 #[.pointer (some ⟨pw, 0, none⟩), aval f p np] w fun e w' => e = .returned (.tuple #[]) ∧ Put pw G (L ++ bodyA f) w w' := by
  have HF := Lib.hid hf
  have HP := Lib.hid hpl
  have HL := Lib.hid hlim
  have HD := Lib.hid hD
  have HPN := Lib.hid hpn
  obtain ⟨k, x, s, t, path, data, fl, ve, wa, so, la, ti, fr, ms⟩ := f
  obtain ⟨A, c, B, d, P, e'⟩ := p
  simp only at hk
  subst hk
  simp only at HP HD
  have KP := fun W => kp_false (k := 1) W (by decide) (by decide)
  have KD := fun W => kd_false (k := 1) W (by decide) (by decide)
  have KV := fun W => kv_false (k := 1) W (by decide) (by decide)
  have KW := fun W => kw_false (k := 1) W (by decide) (by decide)
  have KL := fun W => kl_true (k := 1) W (by decide) (by decide)
  have T0 := Lib.hid (BA.start hw hp (acells ⟨1, x, s, t, path, data, fl, ve, wa, so, la, ti, fr, ms⟩ ⟨A, c, B, d, P, e'⟩ np))
  simp only [aval, acells] at *
  clear hf hpl hlim hD hpn hp hw
  go_enter Tryd.func29, Tryd.ntmps29
  go_wp2_with (first | ((with_reducible refine (KP _).mono ?_); rintro e w' ⟨rfl, rfl⟩) | ((with_reducible refine (KD _).mono ?_); rintro e w' ⟨rfl, rfl⟩) | ((with_reducible refine (KV _).mono ?_); rintro e w' ⟨rfl, rfl⟩) | ((with_reducible refine (KW _).mono ?_); rintro e w' ⟨rfl, rfl⟩) | ((with_reducible refine (KL _).mono ?_); rintro e w' ⟨rfl, rfl⟩) | fail)
  refine (wInt pw G (L) la _ HF.out.la.1 HF.out.la.2 T0.out.a (by have := HL.out; have := HP.out; (try simp only [List.length_append, List.length_cons, List.length_nil, mk_size]); omega)).mono ?_
  rintro e w1 ⟨rfl, G1, a1, f1, g1⟩
  have T1 := Lib.hid (T0.out.next a1 f1 g1)
  clear a1 f1 g1 T0
  have d1 := T1.out.cell 11 _ rfl
  go_wp2_with (first | ((with_reducible refine (KP _).mono ?_); rintro e w' ⟨rfl, rfl⟩) | ((with_reducible refine (KD _).mono ?_); rintro e w' ⟨rfl, rfl⟩) | ((with_reducible refine (KV _).mono ?_); rintro e w' ⟨rfl, rfl⟩) | ((with_reducible refine (KW _).mono ?_); rintro e w' ⟨rfl, rfl⟩) | ((with_reducible refine (KL _).mono ?_); rintro e w' ⟨rfl, rfl⟩) | fail)
  have T1k := Lib.hid (T1.out.keep ((Fr.refl NoB _).alloc (.cells #[.int .i64 ti] 3)))
  have HR1 := Lib.hid (rdi_new w1 [ti] 3)
  refine (ints_calls pw G1 (L ++ intB la) _ [ti] 1 _ _ _ T1k.out.a (by have := HL.out; have := HP.out; have l0 := intB_len la; (try simp only [List.length_append, List.length_cons, List.length_nil]); omega) HR1.out (by rw [World.size_alloc]; exact Nat.le_refl _) (fun k h1 h2 h3 => T1.out.far k h1 h3) (fun z hz => by rw [List.mem_singleton.1 hz]; exact HF.out.ti)).mono ?_
  rintro e w2 ⟨rfl, G2, a2, f2, g2⟩
  have T2 := Lib.hid (T1k.out.next a2 f2 g2)
  clear a2 f2 g2 T1
  go_wp2_with (first | ((with_reducible refine (KP _).mono ?_); rintro e w' ⟨rfl, rfl⟩) | ((with_reducible refine (KD _).mono ?_); rintro e w' ⟨rfl, rfl⟩) | ((with_reducible refine (KV _).mono ?_); rintro e w' ⟨rfl, rfl⟩) | ((with_reducible refine (KW _).mono ?_); rintro e w' ⟨rfl, rfl⟩) | ((with_reducible refine (KL _).mono ?_); rintro e w' ⟨rfl, rfl⟩) | fail)
  go_end0
  exact ⟨rfl, T2.out.put.cast (by simp [bodyA, intsB, List.append_assoc])⟩
set_option maxHeartbeats 3200000 in
set_option maxRecDepth 8000 in
theorem abody2_calls (f : Fa) (p : Pl) (np pw : Nat) (G : Option Nat) (L : List UInt8) (lo hi : Nat) (w : World) (hf : f.Ok) (hw : Wtr w pw G L) (hp : ∀ k, WF pw G k → k < w.heap.size) (hpl : f.path.length ≤ 1000 ∧ f.data.length ≤ 1000) (hlim : L.length ≤ 1000000) (hD : Rd w lo hi p.A f.data) (_hh : hi ≤ w.heap.size) (hpn : ∀ k, lo ≤ k → k < hi → ¬ WF pw G k) (hk : f.k = 2) :
    Calls Tryd.prog 29 #[.pointer (some ⟨pw, 0, none⟩), aval f p np] w fun e w' => e = .returned (.tuple #[]) ∧ Put pw G (L ++ bodyA f) w w' := by
  have HF := Lib.hid hf
  have HP := Lib.hid hpl
  have HL := Lib.hid hlim
  have HD := Lib.hid hD
  have HPN := Lib.hid hpn
  obtain ⟨k, x, s, t, path, data, fl, ve, wa, so, la, ti, fr, ms⟩ := f
  obtain ⟨A, c, B, d, P, e'⟩ := p
  simp only at hk
  subst hk
  simp only at HP HD
  have KP := fun W => kp_false (k := 2) W (by decide) (by decide)
  have KD := fun W => kd_false (k := 2) W (by decide) (by decide)
  have KV := fun W => kv_false (k := 2) W (by decide) (by decide)
  have KW := fun W => kw_false (k := 2) W (by decide) (by decide)
  have KL := fun W => kl_false (k := 2) W (by decide) (by decide)
  have T0 := Lib.hid (BA.start hw hp (acells ⟨2, x, s, t, path, data, fl, ve, wa, so, la, ti, fr, ms⟩ ⟨A, c, B, d, P, e'⟩ np))
  simp only [aval, acells] at *
  clear hf hpl hlim hD hpn hp hw
  go_enter Tryd.func29, Tryd.ntmps29
  go_wp2_with (first | ((with_reducible refine (KP _).mono ?_); rintro e w' ⟨rfl, rfl⟩) | ((with_reducible refine (KD _).mono ?_); rintro e w' ⟨rfl, rfl⟩) | ((with_reducible refine (KV _).mono ?_); rintro e w' ⟨rfl, rfl⟩) | ((with_reducible refine (KW _).mono ?_); rintro e w' ⟨rfl, rfl⟩) | ((with_reducible refine (KL _).mono ?_); rintro e w' ⟨rfl, rfl⟩) | fail)
  go_end0
  exact ⟨rfl, by have h := T0.out.put; rw [show bodyA _ = [] from rfl, List.append_nil]; exact h⟩
set_option maxHeartbeats 3200000 in
set_option maxRecDepth 8000 in
theorem abody3_calls (f : Fa) (p : Pl) (np pw : Nat) (G : Option Nat) (L : List UInt8) (lo hi : Nat) (w : World) (hf : f.Ok) (hw : Wtr w pw G L) (hp : ∀ k, WF pw G k → k < w.heap.size) (hpl : f.path.length ≤ 1000 ∧ f.data.length ≤ 1000) (hlim : L.length ≤ 1000000) (hD : Rd w lo hi p.A f.data) (hh : hi ≤ w.heap.size) (hpn : ∀ k, lo ≤ k → k < hi → ¬ WF pw G k) (hk : f.k = 3) :
    Calls Tryd.prog 29 #[.pointer (some ⟨pw, 0, none⟩), aval f p np] w fun e w' => e = .returned (.tuple #[]) ∧ Put pw G (L ++ bodyA f) w w' := by
  have HF := Lib.hid hf
  have HP := Lib.hid hpl
  have HL := Lib.hid hlim
  have HD := Lib.hid hD
  have HPN := Lib.hid hpn
  obtain ⟨k, x, s, t, path, data, fl, ve, wa, so, la, ti, fr, ms⟩ := f
  obtain ⟨A, c, B, d, P, e'⟩ := p
  simp only at hk
  subst hk
  simp only at HP HD
  have KP := fun W => kp_true (k := 3) W (by decide) (by decide)
  have KD := fun W => kd_true (k := 3) W (by decide) (by decide)
  have KV := fun W => kv_false (k := 3) W (by decide) (by decide)
  have KW := fun W => kw_false (k := 3) W (by decide) (by decide)
  have KL := fun W => kl_false (k := 3) W (by decide) (by decide)
  have T0 := Lib.hid (BA.start hw hp (acells ⟨3, x, s, t, path, data, fl, ve, wa, so, la, ti, fr, ms⟩ ⟨A, c, B, d, P, e'⟩ np))
  simp only [aval, acells] at *
  clear hf hpl hlim hD hpn hp hw
  go_enter Tryd.func29, Tryd.ntmps29
  go_wp2_with (first | ((with_reducible refine (KP _).mono ?_); rintro e w' ⟨rfl, rfl⟩) | ((with_reducible refine (KD _).mono ?_); rintro e w' ⟨rfl, rfl⟩) | ((with_reducible refine (KV _).mono ?_); rintro e w' ⟨rfl, rfl⟩) | ((with_reducible refine (KW _).mono ?_); rintro e w' ⟨rfl, rfl⟩) | ((with_reducible refine (KL _).mono ?_); rintro e w' ⟨rfl, rfl⟩) | fail)
  refine (wText pw G (L) ⟨path.toArray⟩ _ T0.out.a (by have := HL.out; have := HP.out; (try simp only [mk_size]); omega)).mono ?_
  rintro e w1 ⟨rfl, G1, a1, f1, g1⟩
  rw [show (⟨path.toArray⟩ : ByteArray).data.toList = path by simp] at a1
  have T1 := Lib.hid (T0.out.next a1 f1 g1)
  clear a1 f1 g1 T0
  have d1 := T1.out.cell 5 _ rfl
  go_wp2_with (first | ((with_reducible refine (KP _).mono ?_); rintro e w' ⟨rfl, rfl⟩) | ((with_reducible refine (KD _).mono ?_); rintro e w' ⟨rfl, rfl⟩) | ((with_reducible refine (KV _).mono ?_); rintro e w' ⟨rfl, rfl⟩) | ((with_reducible refine (KW _).mono ?_); rintro e w' ⟨rfl, rfl⟩) | ((with_reducible refine (KL _).mono ?_); rintro e w' ⟨rfl, rfl⟩) | fail)
  refine (wBytes pw G1 (L ++ textB path) data A c lo hi _ T1.out.a (by have := HL.out; have := HP.out; have l0 := textB_len path; (try simp only [List.length_append]); omega) (HD.out.fr T1.out.fr hh HPN.out) (Nat.le_trans hh T1.out.fr.size) (fun k h1 h2 h3 => (T1.out.g k h3).elim (HPN.out k h1 h2) (fun h => by omega))).mono ?_
  rintro e w2 ⟨rfl, G2, a2, f2, g2⟩
  have T2 := Lib.hid (T1.out.next a2 f2 g2)
  clear a2 f2 g2 T1
  have d2 := T2.out.cell 6 _ rfl
  go_wp2_with (first | ((with_reducible refine (KP _).mono ?_); rintro e w' ⟨rfl, rfl⟩) | ((with_reducible refine (KD _).mono ?_); rintro e w' ⟨rfl, rfl⟩) | ((with_reducible refine (KV _).mono ?_); rintro e w' ⟨rfl, rfl⟩) | ((with_reducible refine (KW _).mono ?_); rintro e w' ⟨rfl, rfl⟩) | ((with_reducible refine (KL _).mono ?_); rintro e w' ⟨rfl, rfl⟩) | fail)
  have T2k := Lib.hid (T2.out.keep ((Fr.refl NoB _).alloc (.cells #[.int .i64 fl] 3)))
  have HR2 := Lib.hid (rdi_new w2 [fl] 3)
  refine (ints_calls pw G2 (L ++ textB path ++ textB data) _ [fl] 1 _ _ _ T2k.out.a (by have := HL.out; have := HP.out; have l0 := textB_len path; have l1 := textB_len data; (try simp only [List.length_append, List.length_cons, List.length_nil]); omega) HR2.out (by rw [World.size_alloc]; exact Nat.le_refl _) (fun k h1 h2 h3 => T2.out.far k h1 h3) (fun z hz => by rw [List.mem_singleton.1 hz]; exact HF.out.fl)).mono ?_
  rintro e w3 ⟨rfl, G3, a3, f3, g3⟩
  have T3 := Lib.hid (T2k.out.next a3 f3 g3)
  clear a3 f3 g3 T2
  go_wp2_with (first | ((with_reducible refine (KP _).mono ?_); rintro e w' ⟨rfl, rfl⟩) | ((with_reducible refine (KD _).mono ?_); rintro e w' ⟨rfl, rfl⟩) | ((with_reducible refine (KV _).mono ?_); rintro e w' ⟨rfl, rfl⟩) | ((with_reducible refine (KW _).mono ?_); rintro e w' ⟨rfl, rfl⟩) | ((with_reducible refine (KL _).mono ?_); rintro e w' ⟨rfl, rfl⟩) | fail)
  go_end0
  exact ⟨rfl, T3.out.put.cast (by simp [bodyA, intsB, List.append_assoc])⟩
set_option maxHeartbeats 3200000 in
set_option maxRecDepth 8000 in
theorem abody4_calls (f : Fa) (p : Pl) (np pw : Nat) (G : Option Nat) (L : List UInt8) (lo hi : Nat) (w : World) (hf : f.Ok) (hw : Wtr w pw G L) (hp : ∀ k, WF pw G k → k < w.heap.size) (hpl : f.path.length ≤ 1000 ∧ f.data.length ≤ 1000) (hlim : L.length ≤ 1000000) (hD : Rd w lo hi p.A f.data) (_hh : hi ≤ w.heap.size) (hpn : ∀ k, lo ≤ k → k < hi → ¬ WF pw G k) (hk : f.k = 4) :
    Calls Tryd.prog 29 #[.pointer (some ⟨pw, 0, none⟩), aval f p np] w fun e w' => e = .returned (.tuple #[]) ∧ Put pw G (L ++ bodyA f) w w' := by
  have HF := Lib.hid hf
  have HP := Lib.hid hpl
  have HL := Lib.hid hlim
  have HD := Lib.hid hD
  have HPN := Lib.hid hpn
  obtain ⟨k, x, s, t, path, data, fl, ve, wa, so, la, ti, fr, ms⟩ := f
  obtain ⟨A, c, B, d, P, e'⟩ := p
  simp only at hk
  subst hk
  simp only at HP HD
  have KP := fun W => kp_true (k := 4) W (by decide) (by decide)
  have KD := fun W => kd_false (k := 4) W (by decide) (by decide)
  have KV := fun W => kv_true (k := 4) W (by decide) (by decide)
  have KW := fun W => kw_false (k := 4) W (by decide) (by decide)
  have KL := fun W => kl_false (k := 4) W (by decide) (by decide)
  have T0 := Lib.hid (BA.start hw hp (acells ⟨4, x, s, t, path, data, fl, ve, wa, so, la, ti, fr, ms⟩ ⟨A, c, B, d, P, e'⟩ np))
  simp only [aval, acells] at *
  clear hf hpl hlim hD hpn hp hw
  go_enter Tryd.func29, Tryd.ntmps29
  go_wp2_with (first | ((with_reducible refine (KP _).mono ?_); rintro e w' ⟨rfl, rfl⟩) | ((with_reducible refine (KD _).mono ?_); rintro e w' ⟨rfl, rfl⟩) | ((with_reducible refine (KV _).mono ?_); rintro e w' ⟨rfl, rfl⟩) | ((with_reducible refine (KW _).mono ?_); rintro e w' ⟨rfl, rfl⟩) | ((with_reducible refine (KL _).mono ?_); rintro e w' ⟨rfl, rfl⟩) | fail)
  refine (wText pw G (L) ⟨path.toArray⟩ _ T0.out.a (by have := HL.out; have := HP.out; (try simp only [mk_size]); omega)).mono ?_
  rintro e w1 ⟨rfl, G1, a1, f1, g1⟩
  rw [show (⟨path.toArray⟩ : ByteArray).data.toList = path by simp] at a1
  have T1 := Lib.hid (T0.out.next a1 f1 g1)
  clear a1 f1 g1 T0
  have d1 := T1.out.cell 7 _ rfl
  go_wp2_with (first | ((with_reducible refine (KP _).mono ?_); rintro e w' ⟨rfl, rfl⟩) | ((with_reducible refine (KD _).mono ?_); rintro e w' ⟨rfl, rfl⟩) | ((with_reducible refine (KV _).mono ?_); rintro e w' ⟨rfl, rfl⟩) | ((with_reducible refine (KW _).mono ?_); rintro e w' ⟨rfl, rfl⟩) | ((with_reducible refine (KL _).mono ?_); rintro e w' ⟨rfl, rfl⟩) | fail)
  have T1k := Lib.hid (T1.out.keep ((Fr.refl NoB _).alloc (.cells #[.int .i64 ve] 3)))
  have HR1 := Lib.hid (rdi_new w1 [ve] 3)
  refine (ints_calls pw G1 (L ++ textB path) _ [ve] 1 _ _ _ T1k.out.a (by have := HL.out; have := HP.out; have l0 := textB_len path; (try simp only [List.length_append, List.length_cons, List.length_nil]); omega) HR1.out (by rw [World.size_alloc]; exact Nat.le_refl _) (fun k h1 h2 h3 => T1.out.far k h1 h3) (fun z hz => by rw [List.mem_singleton.1 hz]; exact HF.out.ve)).mono ?_
  rintro e w2 ⟨rfl, G2, a2, f2, g2⟩
  have T2 := Lib.hid (T1k.out.next a2 f2 g2)
  clear a2 f2 g2 T1
  go_wp2_with (first | ((with_reducible refine (KP _).mono ?_); rintro e w' ⟨rfl, rfl⟩) | ((with_reducible refine (KD _).mono ?_); rintro e w' ⟨rfl, rfl⟩) | ((with_reducible refine (KV _).mono ?_); rintro e w' ⟨rfl, rfl⟩) | ((with_reducible refine (KW _).mono ?_); rintro e w' ⟨rfl, rfl⟩) | ((with_reducible refine (KL _).mono ?_); rintro e w' ⟨rfl, rfl⟩) | fail)
  go_end0
  exact ⟨rfl, T2.out.put.cast (by simp [bodyA, intsB, List.append_assoc])⟩
set_option maxHeartbeats 3200000 in
set_option maxRecDepth 8000 in
theorem abody5_calls (f : Fa) (p : Pl) (np pw : Nat) (G : Option Nat) (L : List UInt8) (lo hi : Nat) (w : World) (hf : f.Ok) (hw : Wtr w pw G L) (hp : ∀ k, WF pw G k → k < w.heap.size) (hpl : f.path.length ≤ 1000 ∧ f.data.length ≤ 1000) (hlim : L.length ≤ 1000000) (hD : Rd w lo hi p.A f.data) (hh : hi ≤ w.heap.size) (hpn : ∀ k, lo ≤ k → k < hi → ¬ WF pw G k) (hk : f.k = 5) :
    Calls Tryd.prog 29 #[.pointer (some ⟨pw, 0, none⟩), aval f p np] w fun e w' => e = .returned (.tuple #[]) ∧ Put pw G (L ++ bodyA f) w w' := by
  have HF := Lib.hid hf
  have HP := Lib.hid hpl
  have HL := Lib.hid hlim
  have HD := Lib.hid hD
  have HPN := Lib.hid hpn
  obtain ⟨k, x, s, t, path, data, fl, ve, wa, so, la, ti, fr, ms⟩ := f
  obtain ⟨A, c, B, d, P, e'⟩ := p
  simp only at hk
  subst hk
  simp only at HP HD
  have KP := fun W => kp_true (k := 5) W (by decide) (by decide)
  have KD := fun W => kd_true (k := 5) W (by decide) (by decide)
  have KV := fun W => kv_true (k := 5) W (by decide) (by decide)
  have KW := fun W => kw_false (k := 5) W (by decide) (by decide)
  have KL := fun W => kl_false (k := 5) W (by decide) (by decide)
  have T0 := Lib.hid (BA.start hw hp (acells ⟨5, x, s, t, path, data, fl, ve, wa, so, la, ti, fr, ms⟩ ⟨A, c, B, d, P, e'⟩ np))
  simp only [aval, acells] at *
  clear hf hpl hlim hD hpn hp hw
  go_enter Tryd.func29, Tryd.ntmps29
  go_wp2_with (first | ((with_reducible refine (KP _).mono ?_); rintro e w' ⟨rfl, rfl⟩) | ((with_reducible refine (KD _).mono ?_); rintro e w' ⟨rfl, rfl⟩) | ((with_reducible refine (KV _).mono ?_); rintro e w' ⟨rfl, rfl⟩) | ((with_reducible refine (KW _).mono ?_); rintro e w' ⟨rfl, rfl⟩) | ((with_reducible refine (KL _).mono ?_); rintro e w' ⟨rfl, rfl⟩) | fail)
  refine (wText pw G (L) ⟨path.toArray⟩ _ T0.out.a (by have := HL.out; have := HP.out; (try simp only [mk_size]); omega)).mono ?_
  rintro e w1 ⟨rfl, G1, a1, f1, g1⟩
  rw [show (⟨path.toArray⟩ : ByteArray).data.toList = path by simp] at a1
  have T1 := Lib.hid (T0.out.next a1 f1 g1)
  clear a1 f1 g1 T0
  have d1 := T1.out.cell 5 _ rfl
  go_wp2_with (first | ((with_reducible refine (KP _).mono ?_); rintro e w' ⟨rfl, rfl⟩) | ((with_reducible refine (KD _).mono ?_); rintro e w' ⟨rfl, rfl⟩) | ((with_reducible refine (KV _).mono ?_); rintro e w' ⟨rfl, rfl⟩) | ((with_reducible refine (KW _).mono ?_); rintro e w' ⟨rfl, rfl⟩) | ((with_reducible refine (KL _).mono ?_); rintro e w' ⟨rfl, rfl⟩) | fail)
  refine (wBytes pw G1 (L ++ textB path) data A c lo hi _ T1.out.a (by have := HL.out; have := HP.out; have l0 := textB_len path; (try simp only [List.length_append]); omega) (HD.out.fr T1.out.fr hh HPN.out) (Nat.le_trans hh T1.out.fr.size) (fun k h1 h2 h3 => (T1.out.g k h3).elim (HPN.out k h1 h2) (fun h => by omega))).mono ?_
  rintro e w2 ⟨rfl, G2, a2, f2, g2⟩
  have T2 := Lib.hid (T1.out.next a2 f2 g2)
  clear a2 f2 g2 T1
  have d2 := T2.out.cell 7 _ rfl
  go_wp2_with (first | ((with_reducible refine (KP _).mono ?_); rintro e w' ⟨rfl, rfl⟩) | ((with_reducible refine (KD _).mono ?_); rintro e w' ⟨rfl, rfl⟩) | ((with_reducible refine (KV _).mono ?_); rintro e w' ⟨rfl, rfl⟩) | ((with_reducible refine (KW _).mono ?_); rintro e w' ⟨rfl, rfl⟩) | ((with_reducible refine (KL _).mono ?_); rintro e w' ⟨rfl, rfl⟩) | fail)
  have T2k := Lib.hid (T2.out.keep ((Fr.refl NoB _).alloc (.cells #[.int .i64 ve] 3)))
  have HR2 := Lib.hid (rdi_new w2 [ve] 3)
  refine (ints_calls pw G2 (L ++ textB path ++ textB data) _ [ve] 1 _ _ _ T2k.out.a (by have := HL.out; have := HP.out; have l0 := textB_len path; have l1 := textB_len data; (try simp only [List.length_append, List.length_cons, List.length_nil]); omega) HR2.out (by rw [World.size_alloc]; exact Nat.le_refl _) (fun k h1 h2 h3 => T2.out.far k h1 h3) (fun z hz => by rw [List.mem_singleton.1 hz]; exact HF.out.ve)).mono ?_
  rintro e w3 ⟨rfl, G3, a3, f3, g3⟩
  have T3 := Lib.hid (T2k.out.next a3 f3 g3)
  clear a3 f3 g3 T2
  go_wp2_with (first | ((with_reducible refine (KP _).mono ?_); rintro e w' ⟨rfl, rfl⟩) | ((with_reducible refine (KD _).mono ?_); rintro e w' ⟨rfl, rfl⟩) | ((with_reducible refine (KV _).mono ?_); rintro e w' ⟨rfl, rfl⟩) | ((with_reducible refine (KW _).mono ?_); rintro e w' ⟨rfl, rfl⟩) | ((with_reducible refine (KL _).mono ?_); rintro e w' ⟨rfl, rfl⟩) | fail)
  go_end0
  exact ⟨rfl, T3.out.put.cast (by simp [bodyA, intsB, List.append_assoc])⟩
set_option maxHeartbeats 3200000 in
set_option maxRecDepth 8000 in
theorem abody6_calls (f : Fa) (p : Pl) (np pw : Nat) (G : Option Nat) (L : List UInt8) (lo hi : Nat) (w : World) (hf : f.Ok) (hw : Wtr w pw G L) (hp : ∀ k, WF pw G k → k < w.heap.size) (hpl : f.path.length ≤ 1000 ∧ f.data.length ≤ 1000) (hlim : L.length ≤ 1000000) (hD : Rd w lo hi p.A f.data) (_hh : hi ≤ w.heap.size) (hpn : ∀ k, lo ≤ k → k < hi → ¬ WF pw G k) (hk : f.k = 6) :
    Calls Tryd.prog 29 #[.pointer (some ⟨pw, 0, none⟩), aval f p np] w fun e w' => e = .returned (.tuple #[]) ∧ Put pw G (L ++ bodyA f) w w' := by
  have HF := Lib.hid hf
  have HP := Lib.hid hpl
  have HL := Lib.hid hlim
  have HD := Lib.hid hD
  have HPN := Lib.hid hpn
  obtain ⟨k, x, s, t, path, data, fl, ve, wa, so, la, ti, fr, ms⟩ := f
  obtain ⟨A, c, B, d, P, e'⟩ := p
  simp only at hk
  subst hk
  simp only at HP HD
  have KP := fun W => kp_true (k := 6) W (by decide) (by decide)
  have KD := fun W => kd_false (k := 6) W (by decide) (by decide)
  have KV := fun W => kv_true (k := 6) W (by decide) (by decide)
  have KW := fun W => kw_false (k := 6) W (by decide) (by decide)
  have KL := fun W => kl_false (k := 6) W (by decide) (by decide)
  have T0 := Lib.hid (BA.start hw hp (acells ⟨6, x, s, t, path, data, fl, ve, wa, so, la, ti, fr, ms⟩ ⟨A, c, B, d, P, e'⟩ np))
  simp only [aval, acells] at *
  clear hf hpl hlim hD hpn hp hw
  go_enter Tryd.func29, Tryd.ntmps29
  go_wp2_with (first | ((with_reducible refine (KP _).mono ?_); rintro e w' ⟨rfl, rfl⟩) | ((with_reducible refine (KD _).mono ?_); rintro e w' ⟨rfl, rfl⟩) | ((with_reducible refine (KV _).mono ?_); rintro e w' ⟨rfl, rfl⟩) | ((with_reducible refine (KW _).mono ?_); rintro e w' ⟨rfl, rfl⟩) | ((with_reducible refine (KL _).mono ?_); rintro e w' ⟨rfl, rfl⟩) | fail)
  refine (wText pw G (L) ⟨path.toArray⟩ _ T0.out.a (by have := HL.out; have := HP.out; (try simp only [mk_size]); omega)).mono ?_
  rintro e w1 ⟨rfl, G1, a1, f1, g1⟩
  rw [show (⟨path.toArray⟩ : ByteArray).data.toList = path by simp] at a1
  have T1 := Lib.hid (T0.out.next a1 f1 g1)
  clear a1 f1 g1 T0
  have d1 := T1.out.cell 7 _ rfl
  go_wp2_with (first | ((with_reducible refine (KP _).mono ?_); rintro e w' ⟨rfl, rfl⟩) | ((with_reducible refine (KD _).mono ?_); rintro e w' ⟨rfl, rfl⟩) | ((with_reducible refine (KV _).mono ?_); rintro e w' ⟨rfl, rfl⟩) | ((with_reducible refine (KW _).mono ?_); rintro e w' ⟨rfl, rfl⟩) | ((with_reducible refine (KL _).mono ?_); rintro e w' ⟨rfl, rfl⟩) | fail)
  have T1k := Lib.hid (T1.out.keep ((Fr.refl NoB _).alloc (.cells #[.int .i64 ve] 3)))
  have HR1 := Lib.hid (rdi_new w1 [ve] 3)
  refine (ints_calls pw G1 (L ++ textB path) _ [ve] 1 _ _ _ T1k.out.a (by have := HL.out; have := HP.out; have l0 := textB_len path; (try simp only [List.length_append, List.length_cons, List.length_nil]); omega) HR1.out (by rw [World.size_alloc]; exact Nat.le_refl _) (fun k h1 h2 h3 => T1.out.far k h1 h3) (fun z hz => by rw [List.mem_singleton.1 hz]; exact HF.out.ve)).mono ?_
  rintro e w2 ⟨rfl, G2, a2, f2, g2⟩
  have T2 := Lib.hid (T1k.out.next a2 f2 g2)
  clear a2 f2 g2 T1
  go_wp2_with (first | ((with_reducible refine (KP _).mono ?_); rintro e w' ⟨rfl, rfl⟩) | ((with_reducible refine (KD _).mono ?_); rintro e w' ⟨rfl, rfl⟩) | ((with_reducible refine (KV _).mono ?_); rintro e w' ⟨rfl, rfl⟩) | ((with_reducible refine (KW _).mono ?_); rintro e w' ⟨rfl, rfl⟩) | ((with_reducible refine (KL _).mono ?_); rintro e w' ⟨rfl, rfl⟩) | fail)
  go_end0
  exact ⟨rfl, T2.out.put.cast (by simp [bodyA, intsB, List.append_assoc])⟩
set_option maxHeartbeats 3200000 in
set_option maxRecDepth 8000 in
theorem abody7t_calls (f : Fa) (p : Pl) (np pw : Nat) (G : Option Nat) (L : List UInt8) (lo hi : Nat) (w : World) (hf : f.Ok) (hw : Wtr w pw G L) (hp : ∀ k, WF pw G k → k < w.heap.size) (hpl : f.path.length ≤ 1000 ∧ f.data.length ≤ 1000) (hlim : L.length ≤ 1000000) (hD : Rd w lo hi p.A f.data) (_hh : hi ≤ w.heap.size) (hpn : ∀ k, lo ≤ k → k < hi → ¬ WF pw G k) (hwa : f.wa = true) (hk : f.k = 7) :
    Calls Tryd.prog 29 #[.pointer (some ⟨pw, 0, none⟩), aval f p np] w fun e w' => e = .returned (.tuple #[]) ∧ Put pw G (L ++ bodyA f) w w' := by
  have HF := Lib.hid hf
  have HP := Lib.hid hpl
  have HL := Lib.hid hlim
  have HD := Lib.hid hD
  have HPN := Lib.hid hpn
  obtain ⟨k, x, s, t, path, data, fl, ve, wa, so, la, ti, fr, ms⟩ := f
  obtain ⟨A, c, B, d, P, e'⟩ := p
  simp only at hk hwa
  subst hk
  subst hwa
  simp only at HP HD
  have KP := fun W => kp_true (k := 7) W (by decide) (by decide)
  have KD := fun W => kd_false (k := 7) W (by decide) (by decide)
  have KV := fun W => kv_false (k := 7) W (by decide) (by decide)
  have KW := fun W => kw_true (k := 7) W (by decide) (by decide)
  have KL := fun W => kl_false (k := 7) W (by decide) (by decide)
  have T0 := Lib.hid (BA.start hw hp (acells ⟨7, x, s, t, path, data, fl, ve, true, so, la, ti, fr, ms⟩ ⟨A, c, B, d, P, e'⟩ np))
  simp only [aval, acells] at *
  clear hf hpl hlim hD hpn hp hw
  go_enter Tryd.func29, Tryd.ntmps29
  go_wp2_with (first | ((with_reducible refine (KP _).mono ?_); rintro e w' ⟨rfl, rfl⟩) | ((with_reducible refine (KD _).mono ?_); rintro e w' ⟨rfl, rfl⟩) | ((with_reducible refine (KV _).mono ?_); rintro e w' ⟨rfl, rfl⟩) | ((with_reducible refine (KW _).mono ?_); rintro e w' ⟨rfl, rfl⟩) | ((with_reducible refine (KL _).mono ?_); rintro e w' ⟨rfl, rfl⟩) | fail)
  refine (wText pw G (L) ⟨path.toArray⟩ _ T0.out.a (by have := HL.out; have := HP.out; (try simp only [mk_size]); omega)).mono ?_
  rintro e w1 ⟨rfl, G1, a1, f1, g1⟩
  rw [show (⟨path.toArray⟩ : ByteArray).data.toList = path by simp] at a1
  have T1 := Lib.hid (T0.out.next a1 f1 g1)
  clear a1 f1 g1 T0
  have d1 := T1.out.cell 8 _ rfl
  go_wp2_with (first | ((with_reducible refine (KP _).mono ?_); rintro e w' ⟨rfl, rfl⟩) | ((with_reducible refine (KD _).mono ?_); rintro e w' ⟨rfl, rfl⟩) | ((with_reducible refine (KV _).mono ?_); rintro e w' ⟨rfl, rfl⟩) | ((with_reducible refine (KW _).mono ?_); rintro e w' ⟨rfl, rfl⟩) | ((with_reducible refine (KL _).mono ?_); rintro e w' ⟨rfl, rfl⟩) | fail)
  refine (wByteI pw G1 (L ++ textB path) 1 _ (by decide) T1.out.a (by have := HL.out; have := HP.out; have l0 := textB_len path; (try simp only [List.length_append]); omega)).mono ?_
  rintro e w2 ⟨rfl, G2, a2, f2, g2⟩
  have T2 := Lib.hid (T1.out.next a2 f2 g2)
  clear a2 f2 g2 T1
  go_wp2_with (first | ((with_reducible refine (KP _).mono ?_); rintro e w' ⟨rfl, rfl⟩) | ((with_reducible refine (KD _).mono ?_); rintro e w' ⟨rfl, rfl⟩) | ((with_reducible refine (KV _).mono ?_); rintro e w' ⟨rfl, rfl⟩) | ((with_reducible refine (KW _).mono ?_); rintro e w' ⟨rfl, rfl⟩) | ((with_reducible refine (KL _).mono ?_); rintro e w' ⟨rfl, rfl⟩) | fail)
  go_end0
  exact ⟨rfl, T2.out.put.cast (by simp [bodyA, List.append_assoc, wB, kindB])⟩
set_option maxHeartbeats 3200000 in
set_option maxRecDepth 8000 in
theorem abody7f_calls (f : Fa) (p : Pl) (np pw : Nat) (G : Option Nat) (L : List UInt8) (lo hi : Nat) (w : World) (hf : f.Ok) (hw : Wtr w pw G L) (hp : ∀ k, WF pw G k → k < w.heap.size) (hpl : f.path.length ≤ 1000 ∧ f.data.length ≤ 1000) (hlim : L.length ≤ 1000000) (hD : Rd w lo hi p.A f.data) (_hh : hi ≤ w.heap.size) (hpn : ∀ k, lo ≤ k → k < hi → ¬ WF pw G k) (hwa : f.wa = false) (hk : f.k = 7) :
    Calls Tryd.prog 29 #[.pointer (some ⟨pw, 0, none⟩), aval f p np] w fun e w' => e = .returned (.tuple #[]) ∧ Put pw G (L ++ bodyA f) w w' := by
  have HF := Lib.hid hf
  have HP := Lib.hid hpl
  have HL := Lib.hid hlim
  have HD := Lib.hid hD
  have HPN := Lib.hid hpn
  obtain ⟨k, x, s, t, path, data, fl, ve, wa, so, la, ti, fr, ms⟩ := f
  obtain ⟨A, c, B, d, P, e'⟩ := p
  simp only at hk hwa
  subst hk
  subst hwa
  simp only at HP HD
  have KP := fun W => kp_true (k := 7) W (by decide) (by decide)
  have KD := fun W => kd_false (k := 7) W (by decide) (by decide)
  have KV := fun W => kv_false (k := 7) W (by decide) (by decide)
  have KW := fun W => kw_true (k := 7) W (by decide) (by decide)
  have KL := fun W => kl_false (k := 7) W (by decide) (by decide)
  have T0 := Lib.hid (BA.start hw hp (acells ⟨7, x, s, t, path, data, fl, ve, false, so, la, ti, fr, ms⟩ ⟨A, c, B, d, P, e'⟩ np))
  simp only [aval, acells] at *
  clear hf hpl hlim hD hpn hp hw
  go_enter Tryd.func29, Tryd.ntmps29
  go_wp2_with (first | ((with_reducible refine (KP _).mono ?_); rintro e w' ⟨rfl, rfl⟩) | ((with_reducible refine (KD _).mono ?_); rintro e w' ⟨rfl, rfl⟩) | ((with_reducible refine (KV _).mono ?_); rintro e w' ⟨rfl, rfl⟩) | ((with_reducible refine (KW _).mono ?_); rintro e w' ⟨rfl, rfl⟩) | ((with_reducible refine (KL _).mono ?_); rintro e w' ⟨rfl, rfl⟩) | fail)
  refine (wText pw G (L) ⟨path.toArray⟩ _ T0.out.a (by have := HL.out; have := HP.out; (try simp only [mk_size]); omega)).mono ?_
  rintro e w1 ⟨rfl, G1, a1, f1, g1⟩
  rw [show (⟨path.toArray⟩ : ByteArray).data.toList = path by simp] at a1
  have T1 := Lib.hid (T0.out.next a1 f1 g1)
  clear a1 f1 g1 T0
  have d1 := T1.out.cell 8 _ rfl
  go_wp2_with (first | ((with_reducible refine (KP _).mono ?_); rintro e w' ⟨rfl, rfl⟩) | ((with_reducible refine (KD _).mono ?_); rintro e w' ⟨rfl, rfl⟩) | ((with_reducible refine (KV _).mono ?_); rintro e w' ⟨rfl, rfl⟩) | ((with_reducible refine (KW _).mono ?_); rintro e w' ⟨rfl, rfl⟩) | ((with_reducible refine (KL _).mono ?_); rintro e w' ⟨rfl, rfl⟩) | fail)
  refine (wByteI pw G1 (L ++ textB path) 0 _ (by decide) T1.out.a (by have := HL.out; have := HP.out; have l0 := textB_len path; (try simp only [List.length_append]); omega)).mono ?_
  rintro e w2 ⟨rfl, G2, a2, f2, g2⟩
  have T2 := Lib.hid (T1.out.next a2 f2 g2)
  clear a2 f2 g2 T1
  go_wp2_with (first | ((with_reducible refine (KP _).mono ?_); rintro e w' ⟨rfl, rfl⟩) | ((with_reducible refine (KD _).mono ?_); rintro e w' ⟨rfl, rfl⟩) | ((with_reducible refine (KV _).mono ?_); rintro e w' ⟨rfl, rfl⟩) | ((with_reducible refine (KW _).mono ?_); rintro e w' ⟨rfl, rfl⟩) | ((with_reducible refine (KL _).mono ?_); rintro e w' ⟨rfl, rfl⟩) | fail)
  go_end0
  exact ⟨rfl, T2.out.put.cast (by simp [bodyA, List.append_assoc, wB, kindB])⟩
theorem abody7_calls (f : Fa) (p : Pl) (np pw : Nat) (G : Option Nat) (L : List UInt8) (lo hi : Nat) (w : World) (hf : f.Ok) (hw : Wtr w pw G L) (hp : ∀ k, WF pw G k → k < w.heap.size) (hpl : f.path.length ≤ 1000 ∧ f.data.length ≤ 1000) (hlim : L.length ≤ 1000000) (hD : Rd w lo hi p.A f.data) (hh : hi ≤ w.heap.size) (hpn : ∀ k, lo ≤ k → k < hi → ¬ WF pw G k) (hk : f.k = 7) :
    Calls Tryd.prog 29 #[.pointer (some ⟨pw, 0, none⟩), aval f p np] w fun e w' => e = .returned (.tuple #[]) ∧ Put pw G (L ++ bodyA f) w w' := by
  cases hwa : f.wa
  · exact abody7f_calls f p np pw G L lo hi w hf hw hp hpl hlim hD hh hpn hwa hk
  · exact abody7t_calls f p np pw G L lo hi w hf hw hp hpl hlim hD hh hpn hwa hk
set_option maxHeartbeats 3200000 in
set_option maxRecDepth 8000 in
theorem abody8t_calls (f : Fa) (p : Pl) (np pw : Nat) (G : Option Nat) (L : List UInt8) (lo hi : Nat) (w : World) (hf : f.Ok) (hw : Wtr w pw G L) (hp : ∀ k, WF pw G k → k < w.heap.size) (hpl : f.path.length ≤ 1000 ∧ f.data.length ≤ 1000) (hlim : L.length ≤ 1000000) (hD : Rd w lo hi p.A f.data) (_hh : hi ≤ w.heap.size) (hpn : ∀ k, lo ≤ k → k < hi → ¬ WF pw G k) (hwa : f.wa = true) (hk : f.k = 8) :
    Calls Tryd.prog 29 #[.pointer (some ⟨pw, 0, none⟩), aval f p np] w fun e w' => e = .returned (.tuple #[]) ∧ Put pw G (L ++ bodyA f) w w' := by
  have HF := Lib.hid hf
  have HP := Lib.hid hpl
  have HL := Lib.hid hlim
  have HD := Lib.hid hD
  have HPN := Lib.hid hpn
  obtain ⟨k, x, s, t, path, data, fl, ve, wa, so, la, ti, fr, ms⟩ := f
  obtain ⟨A, c, B, d, P, e'⟩ := p
  simp only at hk hwa
  subst hk
  subst hwa
  simp only at HP HD
  have KP := fun W => kp_true (k := 8) W (by decide) (by decide)
  have KD := fun W => kd_false (k := 8) W (by decide) (by decide)
  have KV := fun W => kv_false (k := 8) W (by decide) (by decide)
  have KW := fun W => kw_true (k := 8) W (by decide) (by decide)
  have KL := fun W => kl_false (k := 8) W (by decide) (by decide)
  have T0 := Lib.hid (BA.start hw hp (acells ⟨8, x, s, t, path, data, fl, ve, true, so, la, ti, fr, ms⟩ ⟨A, c, B, d, P, e'⟩ np))
  simp only [aval, acells] at *
  clear hf hpl hlim hD hpn hp hw
  go_enter Tryd.func29, Tryd.ntmps29
  go_wp2_with (first | ((with_reducible refine (KP _).mono ?_); rintro e w' ⟨rfl, rfl⟩) | ((with_reducible refine (KD _).mono ?_); rintro e w' ⟨rfl, rfl⟩) | ((with_reducible refine (KV _).mono ?_); rintro e w' ⟨rfl, rfl⟩) | ((with_reducible refine (KW _).mono ?_); rintro e w' ⟨rfl, rfl⟩) | ((with_reducible refine (KL _).mono ?_); rintro e w' ⟨rfl, rfl⟩) | fail)
  refine (wText pw G (L) ⟨path.toArray⟩ _ T0.out.a (by have := HL.out; have := HP.out; (try simp only [mk_size]); omega)).mono ?_
  rintro e w1 ⟨rfl, G1, a1, f1, g1⟩
  rw [show (⟨path.toArray⟩ : ByteArray).data.toList = path by simp] at a1
  have T1 := Lib.hid (T0.out.next a1 f1 g1)
  clear a1 f1 g1 T0
  have d1 := T1.out.cell 8 _ rfl
  go_wp2_with (first | ((with_reducible refine (KP _).mono ?_); rintro e w' ⟨rfl, rfl⟩) | ((with_reducible refine (KD _).mono ?_); rintro e w' ⟨rfl, rfl⟩) | ((with_reducible refine (KV _).mono ?_); rintro e w' ⟨rfl, rfl⟩) | ((with_reducible refine (KW _).mono ?_); rintro e w' ⟨rfl, rfl⟩) | ((with_reducible refine (KL _).mono ?_); rintro e w' ⟨rfl, rfl⟩) | fail)
  refine (wByteI pw G1 (L ++ textB path) 1 _ (by decide) T1.out.a (by have := HL.out; have := HP.out; have l0 := textB_len path; (try simp only [List.length_append]); omega)).mono ?_
  rintro e w2 ⟨rfl, G2, a2, f2, g2⟩
  have T2 := Lib.hid (T1.out.next a2 f2 g2)
  clear a2 f2 g2 T1
  go_wp2_with (first | ((with_reducible refine (KP _).mono ?_); rintro e w' ⟨rfl, rfl⟩) | ((with_reducible refine (KD _).mono ?_); rintro e w' ⟨rfl, rfl⟩) | ((with_reducible refine (KV _).mono ?_); rintro e w' ⟨rfl, rfl⟩) | ((with_reducible refine (KW _).mono ?_); rintro e w' ⟨rfl, rfl⟩) | ((with_reducible refine (KL _).mono ?_); rintro e w' ⟨rfl, rfl⟩) | fail)
  go_end0
  exact ⟨rfl, T2.out.put.cast (by simp [bodyA, List.append_assoc, wB, kindB])⟩
set_option maxHeartbeats 3200000 in
set_option maxRecDepth 8000 in
theorem abody8f_calls (f : Fa) (p : Pl) (np pw : Nat) (G : Option Nat) (L : List UInt8) (lo hi : Nat) (w : World) (hf : f.Ok) (hw : Wtr w pw G L) (hp : ∀ k, WF pw G k → k < w.heap.size) (hpl : f.path.length ≤ 1000 ∧ f.data.length ≤ 1000) (hlim : L.length ≤ 1000000) (hD : Rd w lo hi p.A f.data) (_hh : hi ≤ w.heap.size) (hpn : ∀ k, lo ≤ k → k < hi → ¬ WF pw G k) (hwa : f.wa = false) (hk : f.k = 8) :
    Calls Tryd.prog 29 #[.pointer (some ⟨pw, 0, none⟩), aval f p np] w fun e w' => e = .returned (.tuple #[]) ∧ Put pw G (L ++ bodyA f) w w' := by
  have HF := Lib.hid hf
  have HP := Lib.hid hpl
  have HL := Lib.hid hlim
  have HD := Lib.hid hD
  have HPN := Lib.hid hpn
  obtain ⟨k, x, s, t, path, data, fl, ve, wa, so, la, ti, fr, ms⟩ := f
  obtain ⟨A, c, B, d, P, e'⟩ := p
  simp only at hk hwa
  subst hk
  subst hwa
  simp only at HP HD
  have KP := fun W => kp_true (k := 8) W (by decide) (by decide)
  have KD := fun W => kd_false (k := 8) W (by decide) (by decide)
  have KV := fun W => kv_false (k := 8) W (by decide) (by decide)
  have KW := fun W => kw_true (k := 8) W (by decide) (by decide)
  have KL := fun W => kl_false (k := 8) W (by decide) (by decide)
  have T0 := Lib.hid (BA.start hw hp (acells ⟨8, x, s, t, path, data, fl, ve, false, so, la, ti, fr, ms⟩ ⟨A, c, B, d, P, e'⟩ np))
  simp only [aval, acells] at *
  clear hf hpl hlim hD hpn hp hw
  go_enter Tryd.func29, Tryd.ntmps29
  go_wp2_with (first | ((with_reducible refine (KP _).mono ?_); rintro e w' ⟨rfl, rfl⟩) | ((with_reducible refine (KD _).mono ?_); rintro e w' ⟨rfl, rfl⟩) | ((with_reducible refine (KV _).mono ?_); rintro e w' ⟨rfl, rfl⟩) | ((with_reducible refine (KW _).mono ?_); rintro e w' ⟨rfl, rfl⟩) | ((with_reducible refine (KL _).mono ?_); rintro e w' ⟨rfl, rfl⟩) | fail)
  refine (wText pw G (L) ⟨path.toArray⟩ _ T0.out.a (by have := HL.out; have := HP.out; (try simp only [mk_size]); omega)).mono ?_
  rintro e w1 ⟨rfl, G1, a1, f1, g1⟩
  rw [show (⟨path.toArray⟩ : ByteArray).data.toList = path by simp] at a1
  have T1 := Lib.hid (T0.out.next a1 f1 g1)
  clear a1 f1 g1 T0
  have d1 := T1.out.cell 8 _ rfl
  go_wp2_with (first | ((with_reducible refine (KP _).mono ?_); rintro e w' ⟨rfl, rfl⟩) | ((with_reducible refine (KD _).mono ?_); rintro e w' ⟨rfl, rfl⟩) | ((with_reducible refine (KV _).mono ?_); rintro e w' ⟨rfl, rfl⟩) | ((with_reducible refine (KW _).mono ?_); rintro e w' ⟨rfl, rfl⟩) | ((with_reducible refine (KL _).mono ?_); rintro e w' ⟨rfl, rfl⟩) | fail)
  refine (wByteI pw G1 (L ++ textB path) 0 _ (by decide) T1.out.a (by have := HL.out; have := HP.out; have l0 := textB_len path; (try simp only [List.length_append]); omega)).mono ?_
  rintro e w2 ⟨rfl, G2, a2, f2, g2⟩
  have T2 := Lib.hid (T1.out.next a2 f2 g2)
  clear a2 f2 g2 T1
  go_wp2_with (first | ((with_reducible refine (KP _).mono ?_); rintro e w' ⟨rfl, rfl⟩) | ((with_reducible refine (KD _).mono ?_); rintro e w' ⟨rfl, rfl⟩) | ((with_reducible refine (KV _).mono ?_); rintro e w' ⟨rfl, rfl⟩) | ((with_reducible refine (KW _).mono ?_); rintro e w' ⟨rfl, rfl⟩) | ((with_reducible refine (KL _).mono ?_); rintro e w' ⟨rfl, rfl⟩) | fail)
  go_end0
  exact ⟨rfl, T2.out.put.cast (by simp [bodyA, List.append_assoc, wB, kindB])⟩
theorem abody8_calls (f : Fa) (p : Pl) (np pw : Nat) (G : Option Nat) (L : List UInt8) (lo hi : Nat) (w : World) (hf : f.Ok) (hw : Wtr w pw G L) (hp : ∀ k, WF pw G k → k < w.heap.size) (hpl : f.path.length ≤ 1000 ∧ f.data.length ≤ 1000) (hlim : L.length ≤ 1000000) (hD : Rd w lo hi p.A f.data) (hh : hi ≤ w.heap.size) (hpn : ∀ k, lo ≤ k → k < hi → ¬ WF pw G k) (hk : f.k = 8) :
    Calls Tryd.prog 29 #[.pointer (some ⟨pw, 0, none⟩), aval f p np] w fun e w' => e = .returned (.tuple #[]) ∧ Put pw G (L ++ bodyA f) w w' := by
  cases hwa : f.wa
  · exact abody8f_calls f p np pw G L lo hi w hf hw hp hpl hlim hD hh hpn hwa hk
  · exact abody8t_calls f p np pw G L lo hi w hf hw hp hpl hlim hD hh hpn hwa hk
set_option maxHeartbeats 3200000 in
set_option maxRecDepth 8000 in
theorem abody9t_calls (f : Fa) (p : Pl) (np pw : Nat) (G : Option Nat) (L : List UInt8) (lo hi : Nat) (w : World) (hf : f.Ok) (hw : Wtr w pw G L) (hp : ∀ k, WF pw G k → k < w.heap.size) (hpl : f.path.length ≤ 1000 ∧ f.data.length ≤ 1000) (hlim : L.length ≤ 1000000) (hD : Rd w lo hi p.A f.data) (_hh : hi ≤ w.heap.size) (hpn : ∀ k, lo ≤ k → k < hi → ¬ WF pw G k) (hwa : f.wa = true) (hk : f.k = 9) :
    Calls Tryd.prog 29 #[.pointer (some ⟨pw, 0, none⟩), aval f p np] w fun e w' => e = .returned (.tuple #[]) ∧ Put pw G (L ++ bodyA f) w w' := by
  have HF := Lib.hid hf
  have HP := Lib.hid hpl
  have HL := Lib.hid hlim
  have HD := Lib.hid hD
  have HPN := Lib.hid hpn
  obtain ⟨k, x, s, t, path, data, fl, ve, wa, so, la, ti, fr, ms⟩ := f
  obtain ⟨A, c, B, d, P, e'⟩ := p
  simp only at hk hwa
  subst hk
  subst hwa
  simp only at HP HD
  have KP := fun W => kp_true (k := 9) W (by decide) (by decide)
  have KD := fun W => kd_false (k := 9) W (by decide) (by decide)
  have KV := fun W => kv_false (k := 9) W (by decide) (by decide)
  have KW := fun W => kw_true (k := 9) W (by decide) (by decide)
  have KL := fun W => kl_false (k := 9) W (by decide) (by decide)
  have T0 := Lib.hid (BA.start hw hp (acells ⟨9, x, s, t, path, data, fl, ve, true, so, la, ti, fr, ms⟩ ⟨A, c, B, d, P, e'⟩ np))
  simp only [aval, acells] at *
  clear hf hpl hlim hD hpn hp hw
  go_enter Tryd.func29, Tryd.ntmps29
  go_wp2_with (first | ((with_reducible refine (KP _).mono ?_); rintro e w' ⟨rfl, rfl⟩) | ((with_reducible refine (KD _).mono ?_); rintro e w' ⟨rfl, rfl⟩) | ((with_reducible refine (KV _).mono ?_); rintro e w' ⟨rfl, rfl⟩) | ((with_reducible refine (KW _).mono ?_); rintro e w' ⟨rfl, rfl⟩) | ((with_reducible refine (KL _).mono ?_); rintro e w' ⟨rfl, rfl⟩) | fail)
  refine (wText pw G (L) ⟨path.toArray⟩ _ T0.out.a (by have := HL.out; have := HP.out; (try simp only [mk_size]); omega)).mono ?_
  rintro e w1 ⟨rfl, G1, a1, f1, g1⟩
  rw [show (⟨path.toArray⟩ : ByteArray).data.toList = path by simp] at a1
  have T1 := Lib.hid (T0.out.next a1 f1 g1)
  clear a1 f1 g1 T0
  have d1 := T1.out.cell 8 _ rfl
  go_wp2_with (first | ((with_reducible refine (KP _).mono ?_); rintro e w' ⟨rfl, rfl⟩) | ((with_reducible refine (KD _).mono ?_); rintro e w' ⟨rfl, rfl⟩) | ((with_reducible refine (KV _).mono ?_); rintro e w' ⟨rfl, rfl⟩) | ((with_reducible refine (KW _).mono ?_); rintro e w' ⟨rfl, rfl⟩) | ((with_reducible refine (KL _).mono ?_); rintro e w' ⟨rfl, rfl⟩) | fail)
  refine (wByteI pw G1 (L ++ textB path) 1 _ (by decide) T1.out.a (by have := HL.out; have := HP.out; have l0 := textB_len path; (try simp only [List.length_append]); omega)).mono ?_
  rintro e w2 ⟨rfl, G2, a2, f2, g2⟩
  have T2 := Lib.hid (T1.out.next a2 f2 g2)
  clear a2 f2 g2 T1
  go_wp2_with (first | ((with_reducible refine (KP _).mono ?_); rintro e w' ⟨rfl, rfl⟩) | ((with_reducible refine (KD _).mono ?_); rintro e w' ⟨rfl, rfl⟩) | ((with_reducible refine (KV _).mono ?_); rintro e w' ⟨rfl, rfl⟩) | ((with_reducible refine (KW _).mono ?_); rintro e w' ⟨rfl, rfl⟩) | ((with_reducible refine (KL _).mono ?_); rintro e w' ⟨rfl, rfl⟩) | fail)
  go_end0
  exact ⟨rfl, T2.out.put.cast (by simp [bodyA, List.append_assoc, wB, kindB])⟩
set_option maxHeartbeats 3200000 in
set_option maxRecDepth 8000 in
theorem abody9f_calls (f : Fa) (p : Pl) (np pw : Nat) (G : Option Nat) (L : List UInt8) (lo hi : Nat) (w : World) (hf : f.Ok) (hw : Wtr w pw G L) (hp : ∀ k, WF pw G k → k < w.heap.size) (hpl : f.path.length ≤ 1000 ∧ f.data.length ≤ 1000) (hlim : L.length ≤ 1000000) (hD : Rd w lo hi p.A f.data) (_hh : hi ≤ w.heap.size) (hpn : ∀ k, lo ≤ k → k < hi → ¬ WF pw G k) (hwa : f.wa = false) (hk : f.k = 9) :
    Calls Tryd.prog 29 #[.pointer (some ⟨pw, 0, none⟩), aval f p np] w fun e w' => e = .returned (.tuple #[]) ∧ Put pw G (L ++ bodyA f) w w' := by
  have HF := Lib.hid hf
  have HP := Lib.hid hpl
  have HL := Lib.hid hlim
  have HD := Lib.hid hD
  have HPN := Lib.hid hpn
  obtain ⟨k, x, s, t, path, data, fl, ve, wa, so, la, ti, fr, ms⟩ := f
  obtain ⟨A, c, B, d, P, e'⟩ := p
  simp only at hk hwa
  subst hk
  subst hwa
  simp only at HP HD
  have KP := fun W => kp_true (k := 9) W (by decide) (by decide)
  have KD := fun W => kd_false (k := 9) W (by decide) (by decide)
  have KV := fun W => kv_false (k := 9) W (by decide) (by decide)
  have KW := fun W => kw_true (k := 9) W (by decide) (by decide)
  have KL := fun W => kl_false (k := 9) W (by decide) (by decide)
  have T0 := Lib.hid (BA.start hw hp (acells ⟨9, x, s, t, path, data, fl, ve, false, so, la, ti, fr, ms⟩ ⟨A, c, B, d, P, e'⟩ np))
  simp only [aval, acells] at *
  clear hf hpl hlim hD hpn hp hw
  go_enter Tryd.func29, Tryd.ntmps29
  go_wp2_with (first | ((with_reducible refine (KP _).mono ?_); rintro e w' ⟨rfl, rfl⟩) | ((with_reducible refine (KD _).mono ?_); rintro e w' ⟨rfl, rfl⟩) | ((with_reducible refine (KV _).mono ?_); rintro e w' ⟨rfl, rfl⟩) | ((with_reducible refine (KW _).mono ?_); rintro e w' ⟨rfl, rfl⟩) | ((with_reducible refine (KL _).mono ?_); rintro e w' ⟨rfl, rfl⟩) | fail)
  refine (wText pw G (L) ⟨path.toArray⟩ _ T0.out.a (by have := HL.out; have := HP.out; (try simp only [mk_size]); omega)).mono ?_
  rintro e w1 ⟨rfl, G1, a1, f1, g1⟩
  rw [show (⟨path.toArray⟩ : ByteArray).data.toList = path by simp] at a1
  have T1 := Lib.hid (T0.out.next a1 f1 g1)
  clear a1 f1 g1 T0
  have d1 := T1.out.cell 8 _ rfl
  go_wp2_with (first | ((with_reducible refine (KP _).mono ?_); rintro e w' ⟨rfl, rfl⟩) | ((with_reducible refine (KD _).mono ?_); rintro e w' ⟨rfl, rfl⟩) | ((with_reducible refine (KV _).mono ?_); rintro e w' ⟨rfl, rfl⟩) | ((with_reducible refine (KW _).mono ?_); rintro e w' ⟨rfl, rfl⟩) | ((with_reducible refine (KL _).mono ?_); rintro e w' ⟨rfl, rfl⟩) | fail)
  refine (wByteI pw G1 (L ++ textB path) 0 _ (by decide) T1.out.a (by have := HL.out; have := HP.out; have l0 := textB_len path; (try simp only [List.length_append]); omega)).mono ?_
  rintro e w2 ⟨rfl, G2, a2, f2, g2⟩
  have T2 := Lib.hid (T1.out.next a2 f2 g2)
  clear a2 f2 g2 T1
  go_wp2_with (first | ((with_reducible refine (KP _).mono ?_); rintro e w' ⟨rfl, rfl⟩) | ((with_reducible refine (KD _).mono ?_); rintro e w' ⟨rfl, rfl⟩) | ((with_reducible refine (KV _).mono ?_); rintro e w' ⟨rfl, rfl⟩) | ((with_reducible refine (KW _).mono ?_); rintro e w' ⟨rfl, rfl⟩) | ((with_reducible refine (KL _).mono ?_); rintro e w' ⟨rfl, rfl⟩) | fail)
  go_end0
  exact ⟨rfl, T2.out.put.cast (by simp [bodyA, List.append_assoc, wB, kindB])⟩
theorem abody9_calls (f : Fa) (p : Pl) (np pw : Nat) (G : Option Nat) (L : List UInt8) (lo hi : Nat) (w : World) (hf : f.Ok) (hw : Wtr w pw G L) (hp : ∀ k, WF pw G k → k < w.heap.size) (hpl : f.path.length ≤ 1000 ∧ f.data.length ≤ 1000) (hlim : L.length ≤ 1000000) (hD : Rd w lo hi p.A f.data) (hh : hi ≤ w.heap.size) (hpn : ∀ k, lo ≤ k → k < hi → ¬ WF pw G k) (hk : f.k = 9) :
    Calls Tryd.prog 29 #[.pointer (some ⟨pw, 0, none⟩), aval f p np] w fun e w' => e = .returned (.tuple #[]) ∧ Put pw G (L ++ bodyA f) w w' := by
  cases hwa : f.wa
  · exact abody9f_calls f p np pw G L lo hi w hf hw hp hpl hlim hD hh hpn hwa hk
  · exact abody9t_calls f p np pw G L lo hi w hf hw hp hpl hlim hD hh hpn hwa hk
set_option maxHeartbeats 3200000 in
set_option maxRecDepth 8000 in
theorem abody10_calls (f : Fa) (p : Pl) (np pw : Nat) (G : Option Nat) (L : List UInt8) (lo hi : Nat) (w : World) (hf : f.Ok) (hw : Wtr w pw G L) (hp : ∀ k, WF pw G k → k < w.heap.size) (hpl : f.path.length ≤ 1000 ∧ f.data.length ≤ 1000) (hlim : L.length ≤ 1000000) (hD : Rd w lo hi p.A f.data) (_hh : hi ≤ w.heap.size) (hpn : ∀ k, lo ≤ k → k < hi → ¬ WF pw G k) (hk : f.k = 10) :
    Calls Tryd.prog 29 #[.pointer (some ⟨pw, 0, none⟩), aval f p np] w fun e w' => e = .returned (.tuple #[]) ∧ Put pw G (L ++ bodyA f) w w' := by
  have HF := Lib.hid hf
  have HP := Lib.hid hpl
  have HL := Lib.hid hlim
  have HD := Lib.hid hD
  have HPN := Lib.hid hpn
  obtain ⟨k, x, s, t, path, data, fl, ve, wa, so, la, ti, fr, ms⟩ := f
  obtain ⟨A, c, B, d, P, e'⟩ := p
  simp only at hk
  subst hk
  simp only at HP HD
  have KP := fun W => kp_false (k := 10) W (by decide) (by decide)
  have KD := fun W => kd_false (k := 10) W (by decide) (by decide)
  have KV := fun W => kv_false (k := 10) W (by decide) (by decide)
  have KW := fun W => kw_false (k := 10) W (by decide) (by decide)
  have KL := fun W => kl_false (k := 10) W (by decide) (by decide)
  have T0 := Lib.hid (BA.start hw hp (acells ⟨10, x, s, t, path, data, fl, ve, wa, so, la, ti, fr, ms⟩ ⟨A, c, B, d, P, e'⟩ np))
  simp only [aval, acells] at *
  clear hf hpl hlim hD hpn hp hw
  go_enter Tryd.func29, Tryd.ntmps29
  go_wp2_with (first | ((with_reducible refine (KP _).mono ?_); rintro e w' ⟨rfl, rfl⟩) | ((with_reducible refine (KD _).mono ?_); rintro e w' ⟨rfl, rfl⟩) | ((with_reducible refine (KV _).mono ?_); rintro e w' ⟨rfl, rfl⟩) | ((with_reducible refine (KW _).mono ?_); rintro e w' ⟨rfl, rfl⟩) | ((with_reducible refine (KL _).mono ?_); rintro e w' ⟨rfl, rfl⟩) | fail)
  go_end0
  exact ⟨rfl, by have h := T0.out.put; rw [show bodyA _ = [] from rfl, List.append_nil]; exact h⟩
set_option maxHeartbeats 3200000 in
set_option maxRecDepth 8000 in
theorem abody13_calls (f : Fa) (p : Pl) (np pw : Nat) (G : Option Nat) (L : List UInt8) (lo hi : Nat) (w : World) (hf : f.Ok) (hw : Wtr w pw G L) (hp : ∀ k, WF pw G k → k < w.heap.size) (hpl : f.path.length ≤ 1000 ∧ f.data.length ≤ 1000) (hlim : L.length ≤ 1000000) (hD : Rd w lo hi p.A f.data) (_hh : hi ≤ w.heap.size) (hpn : ∀ k, lo ≤ k → k < hi → ¬ WF pw G k) (hk : f.k = 13) :
    Calls Tryd.prog 29 #[.pointer (some ⟨pw, 0, none⟩), aval f p np] w fun e w' => e = .returned (.tuple #[]) ∧ Put pw G (L ++ bodyA f) w w' := by
  have HF := Lib.hid hf
  have HP := Lib.hid hpl
  have HL := Lib.hid hlim
  have HD := Lib.hid hD
  have HPN := Lib.hid hpn
  obtain ⟨k, x, s, t, path, data, fl, ve, wa, so, la, ti, fr, ms⟩ := f
  obtain ⟨A, c, B, d, P, e'⟩ := p
  simp only at hk
  subst hk
  simp only at HP HD
  have KP := fun W => kp_false (k := 13) W (by decide) (by decide)
  have KD := fun W => kd_false (k := 13) W (by decide) (by decide)
  have KV := fun W => kv_false (k := 13) W (by decide) (by decide)
  have KW := fun W => kw_false (k := 13) W (by decide) (by decide)
  have KL := fun W => kl_false (k := 13) W (by decide) (by decide)
  have T0 := Lib.hid (BA.start hw hp (acells ⟨13, x, s, t, path, data, fl, ve, wa, so, la, ti, fr, ms⟩ ⟨A, c, B, d, P, e'⟩ np))
  simp only [aval, acells] at *
  clear hf hpl hlim hD hpn hp hw
  go_enter Tryd.func29, Tryd.ntmps29
  go_wp2_with (first | ((with_reducible refine (KP _).mono ?_); rintro e w' ⟨rfl, rfl⟩) | ((with_reducible refine (KD _).mono ?_); rintro e w' ⟨rfl, rfl⟩) | ((with_reducible refine (KV _).mono ?_); rintro e w' ⟨rfl, rfl⟩) | ((with_reducible refine (KW _).mono ?_); rintro e w' ⟨rfl, rfl⟩) | ((with_reducible refine (KL _).mono ?_); rintro e w' ⟨rfl, rfl⟩) | fail)
  go_end0
  exact ⟨rfl, by have h := T0.out.put; rw [show bodyA _ = [] from rfl, List.append_nil]; exact h⟩
set_option maxHeartbeats 3200000 in
set_option maxRecDepth 8000 in
theorem abody14_calls (f : Fa) (p : Pl) (np pw : Nat) (G : Option Nat) (L : List UInt8) (lo hi : Nat) (w : World) (hf : f.Ok) (hw : Wtr w pw G L) (hp : ∀ k, WF pw G k → k < w.heap.size) (hpl : f.path.length ≤ 1000 ∧ f.data.length ≤ 1000) (hlim : L.length ≤ 1000000) (hD : Rd w lo hi p.A f.data) (_hh : hi ≤ w.heap.size) (hpn : ∀ k, lo ≤ k → k < hi → ¬ WF pw G k) (hk : f.k = 14) :
    Calls Tryd.prog 29 #[.pointer (some ⟨pw, 0, none⟩), aval f p np] w fun e w' => e = .returned (.tuple #[]) ∧ Put pw G (L ++ bodyA f) w w' := by
  have HF := Lib.hid hf
  have HP := Lib.hid hpl
  have HL := Lib.hid hlim
  have HD := Lib.hid hD
  have HPN := Lib.hid hpn
  obtain ⟨k, x, s, t, path, data, fl, ve, wa, so, la, ti, fr, ms⟩ := f
  obtain ⟨A, c, B, d, P, e'⟩ := p
  simp only at hk
  subst hk
  simp only at HP HD
  have KP := fun W => kp_true (k := 14) W (by decide) (by decide)
  have KD := fun W => kd_false (k := 14) W (by decide) (by decide)
  have KV := fun W => kv_false (k := 14) W (by decide) (by decide)
  have KW := fun W => kw_false (k := 14) W (by decide) (by decide)
  have KL := fun W => kl_true (k := 14) W (by decide) (by decide)
  have T0 := Lib.hid (BA.start hw hp (acells ⟨14, x, s, t, path, data, fl, ve, wa, so, la, ti, fr, ms⟩ ⟨A, c, B, d, P, e'⟩ np))
  simp only [aval, acells] at *
  clear hf hpl hlim hD hpn hp hw
  go_enter Tryd.func29, Tryd.ntmps29
  go_wp2_with (first | ((with_reducible refine (KP _).mono ?_); rintro e w' ⟨rfl, rfl⟩) | ((with_reducible refine (KD _).mono ?_); rintro e w' ⟨rfl, rfl⟩) | ((with_reducible refine (KV _).mono ?_); rintro e w' ⟨rfl, rfl⟩) | ((with_reducible refine (KW _).mono ?_); rintro e w' ⟨rfl, rfl⟩) | ((with_reducible refine (KL _).mono ?_); rintro e w' ⟨rfl, rfl⟩) | fail)
  refine (wText pw G (L) ⟨path.toArray⟩ _ T0.out.a (by have := HL.out; have := HP.out; (try simp only [mk_size]); omega)).mono ?_
  rintro e w1 ⟨rfl, G1, a1, f1, g1⟩
  rw [show (⟨path.toArray⟩ : ByteArray).data.toList = path by simp] at a1
  have T1 := Lib.hid (T0.out.next a1 f1 g1)
  clear a1 f1 g1 T0
  have d1 := T1.out.cell 9 _ rfl
  go_wp2_with (first | ((with_reducible refine (KP _).mono ?_); rintro e w' ⟨rfl, rfl⟩) | ((with_reducible refine (KD _).mono ?_); rintro e w' ⟨rfl, rfl⟩) | ((with_reducible refine (KV _).mono ?_); rintro e w' ⟨rfl, rfl⟩) | ((with_reducible refine (KW _).mono ?_); rintro e w' ⟨rfl, rfl⟩) | ((with_reducible refine (KL _).mono ?_); rintro e w' ⟨rfl, rfl⟩) | fail)
  refine (wByteI pw G1 (L ++ textB path) so _ HF.out.so T1.out.a (by have := HL.out; have := HP.out; have l0 := textB_len path; (try simp only [List.length_append]); omega)).mono ?_
  rintro e w2 ⟨rfl, G2, a2, f2, g2⟩
  have T2 := Lib.hid (T1.out.next a2 f2 g2)
  clear a2 f2 g2 T1
  have d2 := T2.out.cell 10 _ rfl
  go_wp2_with (first | ((with_reducible refine (KP _).mono ?_); rintro e w' ⟨rfl, rfl⟩) | ((with_reducible refine (KD _).mono ?_); rintro e w' ⟨rfl, rfl⟩) | ((with_reducible refine (KV _).mono ?_); rintro e w' ⟨rfl, rfl⟩) | ((with_reducible refine (KW _).mono ?_); rintro e w' ⟨rfl, rfl⟩) | ((with_reducible refine (KL _).mono ?_); rintro e w' ⟨rfl, rfl⟩) | fail)
  refine (wInt pw G2 (L ++ textB path ++ [kindB so]) la _ HF.out.la.1 HF.out.la.2 T2.out.a (by have := HL.out; have := HP.out; have l0 := textB_len path; (try simp only [List.length_append, List.length_cons, List.length_nil]); omega)).mono ?_
  rintro e w3 ⟨rfl, G3, a3, f3, g3⟩
  have T3 := Lib.hid (T2.out.next a3 f3 g3)
  clear a3 f3 g3 T2
  go_wp2_with (first | ((with_reducible refine (KP _).mono ?_); rintro e w' ⟨rfl, rfl⟩) | ((with_reducible refine (KD _).mono ?_); rintro e w' ⟨rfl, rfl⟩) | ((with_reducible refine (KV _).mono ?_); rintro e w' ⟨rfl, rfl⟩) | ((with_reducible refine (KW _).mono ?_); rintro e w' ⟨rfl, rfl⟩) | ((with_reducible refine (KL _).mono ?_); rintro e w' ⟨rfl, rfl⟩) | fail)
  go_end0
  exact ⟨rfl, T3.out.put.cast (by simp [bodyA, List.append_assoc])⟩
end Go.Proofs.YtlckgkpgllhpbaaDoor

/- Abe -/
namespace Go.Proofs.YtlckgkpgllhpbaaDoor
open Go.RowKit

theorem abodyp_calls (q : Fa × Nat) (hq : PartA q) (p : Pl) (pw : Nat) (G : Option Nat) (L : List UInt8) (lo hi : Nat) (w : World) (hf : q.1.Ok) (hw : Wtr w pw G L) (hp : ∀ k, WF pw G k → k < w.heap.size) (hlim : L.length ≤ 1000000) (hD : Rd w lo hi p.A q.1.data) (hh : hi ≤ w.heap.size) (hpn : ∀ k, lo ≤ k → k < hi → ¬ WF pw G k) :
    Calls Tryd.prog 29 #[.pointer (some ⟨pw, 0, none⟩), aval q.1 p q.2] w fun e w' => e = .returned (.tuple #[]) ∧ Put pw G (L ++ bodyA q.1) w w' := by
  obtain ⟨f, np⟩ := q
  obtain ⟨⟨-, -, hl1, hl2, -⟩, hk, -⟩ := hq
  simp only at *
  rcases (show f.k = 3 ∨ f.k = 4 ∨ f.k = 5 ∨ f.k = 6 by omega) with h | h | h | h
  · exact abody3_calls f p np pw G L lo hi w hf hw hp ⟨by omega, by omega⟩ hlim hD hh hpn h
  · exact abody4_calls f p np pw G L lo hi w hf hw hp ⟨by omega, by omega⟩ hlim hD hh hpn h
  · exact abody5_calls f p np pw G L lo hi w hf hw hp ⟨by omega, by omega⟩ hlim hD hh hpn h
  · exact abody6_calls f p np pw G L lo hi w hf hw hp ⟨by omega, by omega⟩ hlim hD hh hpn h
theorem asize15 : (Tryd.prog.info? 29).map (·.size) = some 15 := by kernel_rfl
theorem size_ask (f : Fa) (p : Pl) (np : Nat) : (Tryd.prog.info? 29).map (·.size) = some (acells f p np).toList.length := asize15
theorem partsA_snoc {l : List (Fa × Nat)} {k : Nat} (h : k < l.length) : partsA (l.take (k + 1)) = partsA (l.take k) ++ (kindB l[k].1.k :: bodyA l[k].1) := by
  rw [List.take_succ_eq_append_getElem h, partsA_append]; simp [partsA]
set_option maxHeartbeats 3200000 in
set_option maxRecDepth 8000 in
theorem abody11_calls (f : Fa) (p : Pl) (l : List (Fa × Nat)) (pw : Nat) (G : Option Nat) (L : List UInt8) (lo hi : Nat) (w : World) (hok : ∀ q ∈ l, q.1.Ok) (hw : Wtr w pw G L) (hp : ∀ k, WF pw G k → k < w.heap.size) (hlim : L.length ≤ 100000) (hP : RdPa w lo hi p.P l) (hl : l.length ≤ 16) (hps : ∀ q ∈ l, PartA q) (hh : hi ≤ w.heap.size) (hpn : ∀ k, lo ≤ k → k < hi → ¬ WF pw G k) (hk : f.k = 11) :
    Calls Tryd.prog 29 #[.pointer (some ⟨pw, 0, none⟩), aval f p l.length] w fun e w' => e = .returned (.tuple #[]) ∧ Put pw G (L ++ (intB l.length ++ partsA l)) w w' := by
  have HL := Lib.hid hlim
  have HP := Lib.hid hP
  have HPN := Lib.hid hpn
  have HPS := Lib.hid hps
  have HOK := Lib.hid hok
  obtain ⟨k, x, s, t, path, data, fl, ve, wa, so, la, ti, fr, ms⟩ := f
  obtain ⟨A, c, B, d, P, e'⟩ := p
  simp only at hk
  subst hk
  simp only at HP
  have KP := fun W => kp_false (k := 11) W (by decide) (by decide)
  have KD := fun W => kd_false (k := 11) W (by decide) (by decide)
  have KV := fun W => kv_false (k := 11) W (by decide) (by decide)
  have KW := fun W => kw_false (k := 11) W (by decide) (by decide)
  have KL := fun W => kl_false (k := 11) W (by decide) (by decide)
  have T0 := Lib.hid (BA.start hw hp (acells ⟨11, x, s, t, path, data, fl, ve, wa, so, la, ti, fr, ms⟩ ⟨A, c, B, d, P, e'⟩ l.length))
  obtain ⟨W0, hW0⟩ : ∃ W0, w.alloc (.cells (acells ⟨11, x, s, t, path, data, fl, ve, wa, so, la, ti, fr, ms⟩ ⟨A, c, B, d, P, e'⟩ l.length) 29) = W0 := ⟨_, rfl⟩
  have T0k := Lib.hid (T0.out.keep ((Fr.refl NoB _).alloc (.cells #[.int .i64 (l.length : Int)] 3)))
  have h0r := (rdi_new (w.alloc (.cells (acells ⟨11, x, s, t, path, data, fl, ve, wa, so, la, ti, fr, ms⟩ ⟨A, c, B, d, P, e'⟩ l.length) 29)) [(l.length : Int)] 3)
  rw [World.size_alloc] at h0r
  have HR0 := Lib.hid h0r
  clear hW0 W0 h0r
  simp only [aval, acells] at *
  clear hok hlim hP hps hpn hp hw
  go_enter Tryd.func29, Tryd.ntmps29
  go_wp2_with (first | ((with_reducible refine (KP _).mono ?_); rintro e w' ⟨rfl, rfl⟩) | ((with_reducible refine (KD _).mono ?_); rintro e w' ⟨rfl, rfl⟩) | ((with_reducible refine (KV _).mono ?_); rintro e w' ⟨rfl, rfl⟩) | ((with_reducible refine (KW _).mono ?_); rintro e w' ⟨rfl, rfl⟩) | ((with_reducible refine (KL _).mono ?_); rintro e w' ⟨rfl, rfl⟩) | fail)
  refine (ints_calls pw G L _ [(l.length : Int)] 1 _ _ _ T0k.out.a (by have := HL.out; simp only [List.length_cons, List.length_nil]; omega) HR0.out (by simp) (fun k h1 h2 h3 => T0.out.far k (by rw [World.size_alloc]; exact h1) h3) (fun z hz => by rw [List.mem_singleton.1 hz]; unfold OkI; omega)).mono ?_
  rintro e w2 ⟨rfl, G2, a2, f2, g2⟩
  have T2 := Lib.hid (T0k.out.next a2 f2 g2)
  clear a2 f2 g2 T0 T0k HR0
  have d2 := T2.out.cell 14 _ rfl
  go_wp2
  clear d2 KP KD KV KW KL
  have HL0 : Hid ((L ++ intsB [(l.length : Int)]).length ≤ 100020) := by
    have := HL.out
    have l1 := intsB_len [(l.length : Int)]
    show _ ≤ _
    simp only [List.length_append, List.length_cons, List.length_nil] at l1 ⊢
    omega
  have HLL : Hid (L ++ (intB l.length ++ partsA l) = (L ++ intsB [(l.length : Int)]) ++ partsA l) := by
    show _ = _
    simp [intsB]
  generalize L ++ intsB [(l.length : Int)] = L0 at T2 HL0 HLL
  go_loopw [105] (fun i W => ∃ (k : Nat) (Gk : Option Nat), k ≤ l.length ∧ i = .int .i64 (k : Int) ∧ BA w W pw G Gk (L0 ++ partsA (l.take k)) w.heap.size (#[.int .u8 11, .int .i64 x, .int .i64 s, .int .i64 t, .string ⟨path.toArray⟩, .slice A data.length c, .int .i64 fl, .int .i64 ve, .bool wa, .int .u8 so, .int .i64 la, .int .i64 ti, .int .i64 fr, .slice B ms.length d, .slice P l.length e'])) (fun i _ => l.length - (intOf i).toNat)
  case atStart => exact ⟨0, G2, Nat.zero_le _, rfl, T2.out.cast (by simp [partsA])⟩
  case round =>
    obtain ⟨k, Gk, hk, rfl, ht⟩ := hrel
    have T := Lib.hid ht
    clear ht T2
    by_cases hlt : k < l.length
    · have hki : (k : Int) < (l.length : Int) := by omega
      have hk0 : (0 : Int) ≤ (k : Int) := by omega
      obtain ⟨b, o, rfl, hb1, hb2, h4⟩ := HP.out (by omega)
      obtain ⟨pl, hcs, hrd, -⟩ := h4 k l[k] (List.getElem?_eq_getElem hlt)
      have hq := HOK.out l[k] (List.getElem_mem hlt)
      have hpq := HPS.out l[k] (List.getElem_mem hlt)
      have htk : L0 ++ partsA (l.take (k + 1)) = (L0 ++ partsA (l.take k)) ++ (kindB l[k].1.k :: bodyA l[k].1) := by rw [partsA_snoc hlt, List.append_assoc]
      have hlen : (L0 ++ partsA (l.take k)).length ≤ 721000 := by
        have h1 := partsA_len (l := l.take k) (fun q hq => HPS.out q (List.mem_of_mem_take hq))
        have h2 := HL0.out
        rw [List.length_take] at h1
        rw [List.length_append]
        omega
      have HLEN := Lib.hid hlen
      have HTK := Lib.hid htk
      clear h4 hlen htk
      generalize l[k] = q at hcs hrd hq hpq HTK
      generalize L0 ++ partsA (l.take k) = Lk at *
      have HRD := Lib.hid (hrd.fr T.out.fr hh HPN.out)
      have HKR := Lib.hid hq.k
      have HQ := Lib.hid hq
      have HPQ := Lib.hid hpq
      have HC : ∀ j v, (acells q.1 pl q.2)[j]? = some v → wr.cell? ⟨b, o + k * 15 + j, none⟩ = some v := fun j v hv => (T.out.fr.cell (p := ⟨b, o + k * 15 + j, none⟩) (by simp only; omega) (HPN.out b hb1 hb2)).trans (hcs j v hv)
      clear hrd hq hpq
      obtain ⟨f, np⟩ := q
      obtain ⟨kk, x1, s1, t1, path1, data1, fl1, ve1, wa1, so1, la1, ti1, fr1, ms1⟩ := f
      obtain ⟨A1, ca, B1, cb, P1, cp⟩ := pl
      have hL := Lib.hid (apart_range HC)
      clear HC hcs
      have d14 := T.out.cell 14 _ rfl
      have FA := Lib.hid ((Fr.refl NoB wr).alloc (.cells #[.int .u8 kk, .int .i64 x1, .int .i64 s1, .int .i64 t1, .string ⟨path1.toArray⟩, .slice A1 data1.length ca, .int .i64 fl1, .int .i64 ve1, .bool wa1, .int .u8 so1, .int .i64 la1, .int .i64 ti1, .int .i64 fr1, .slice B1 ms1.length cb, .slice P1 np cp] 29))
      go_wp2_with (first | (refine wpList_load_mid rfl 29 _ rfl b (o + k * 15) rfl _ _ hL.out Tryd.underlying29 rfl (size_ask _ _ _) ?_; simp only [acells]) | (refine wpList_store_row rfl 29 _ _ rfl wr.heap.size _ rfl rfl _ _ (heap_alloc_last wr _) asize15 rfl (by simp [Value.oneCell']) ?_; rw [World.setRow_alloc_new]) | fail)
      have T1 := Lib.hid (T.out.keep FA.out)
      have HN := Lib.hid (heap_alloc_new wr (.cells #[.int .u8 kk, .int .i64 x1, .int .i64 s1, .int .i64 t1, .string ⟨path1.toArray⟩, .slice A1 data1.length ca, .int .i64 fl1, .int .i64 ve1, .bool wa1, .int .u8 so1, .int .i64 la1, .int .i64 ti1, .int .i64 fr1, .slice B1 ms1.length cb, .slice P1 np cp] 29))
      have HGK := Lib.hid (fun (h : WF pw Gk wr.heap.size) => Nat.lt_irrefl _ (T.out.a.lt h))
      have HRD1 := Lib.hid (HRD.out.fr FA.out (Nat.le_trans hh T.out.fr.size) (fun _ _ _ x => x))
      clear HRD
      refine (wByteI pw Gk Lk kk _ HKR.out T1.out.a (by have := HLEN.out; omega)).mono ?_
      rintro e w3 ⟨rfl, G3, a3, f3, g3⟩
      have T3 := Lib.hid (T1.out.next a3 f3 g3)
      have HN3 := Lib.hid (f3.at_ HN.out HGK.out)
      have HNW := Lib.hid (fun (h : WF pw G3 wr.heap.size) => (g3 _ h).elim HGK.out (fun h => absurd h (by simp)))
      have HRD3 := Lib.hid (HRD1.out.fr f3 (Nat.le_trans (Nat.le_trans hh T.out.fr.size) FA.out.size) (fun k h1 h2 h3 => (T.out.g k h3).elim (HPN.out k h1 h2) (fun h => by omega)))
      clear a3 f3 g3 T1 HN HRD1 FA d14
      go_wp2_with (first | (refine wpList_load_row rfl 29 _ rfl wr.heap.size rfl _ _ _ _ HN3.out Tryd.underlying29 rfl asize15 ?_) | fail)
      refine (abodyp_calls (⟨kk, x1, s1, t1, path1, data1, fl1, ve1, wa1, so1, la1, ti1, fr1, ms1⟩, np) HPQ.out ⟨A1, ca, B1, cb, P1, cp⟩ pw G3 _ lo hi _ HQ.out T3.out.a (fun k h => T3.out.a.lt h) (by have := HLEN.out; simp only [List.length_append, List.length_cons, List.length_nil]; omega) HRD3.out (Nat.le_trans hh T3.out.fr.size) (fun k h1 h2 h3 => (T3.out.g k h3).elim (HPN.out k h1 h2) (fun h => by omega))).mono ?_
      rintro e w4 ⟨rfl, G4, a4, f4, g4⟩
      have T4 := Lib.hid (T3.out.next a4 f4 g4)
      clear a4 f4 g4 T3 HN3
      go_wp2
      go_roundw
      case rel => exact ⟨k + 1, G4, by omega, by go_num, T4.out.cast (by rw [HTK.out]; simp)⟩
      case measure => simp [intOf]; omega
    · obtain rfl : k = l.length := by omega
      have T9 := T.out
      rw [List.take_length] at T9
      have TE := Lib.hid T9
      clear T9 T
      go_wp2
      go_end0
      exact ⟨rfl, TE.out.put.cast HLL.out.symm⟩
set_option maxHeartbeats 3200000 in
set_option maxRecDepth 8000 in
theorem abody12_calls (f : Fa) (p : Pl) (np pw : Nat) (G : Option Nat) (L : List UInt8) (lo hi : Nat) (w : World) (hf : f.Ok) (hms : f.OkMs) (hw : Wtr w pw G L) (hp : ∀ k, WF pw G k → k < w.heap.size) (hlim : L.length ≤ 100000) (hM : RdM w lo hi p.B f.ms) (hl : f.ms.length ≤ 7) (hh : hi ≤ w.heap.size) (hpn : ∀ k, lo ≤ k → k < hi → ¬ WF pw G k) (hk : f.k = 12) :
    Calls Tryd.prog 29 #[.pointer (some ⟨pw, 0, none⟩), aval f p np] w fun e w' => e = .returned (.tuple #[]) ∧ Put pw G (L ++ bodyA f) w w' := by
  have HL := Lib.hid hlim
  have HPN := Lib.hid hpn
  have HM := Lib.hid hM
  have HOK := Lib.hid hms
  have HFR := Lib.hid hf.fr
  obtain ⟨k, x, s, t, path, data, fl, ve, wa, so, la, ti, fr, ms⟩ := f
  obtain ⟨A, c, B, d, P, e'⟩ := p
  simp only at hk
  subst hk
  simp only at HM hl HFR
  unfold Fa.OkMs at HOK
  simp only at HOK
  have KP := fun W => kp_false (k := 12) W (by decide) (by decide)
  have KD := fun W => kd_false (k := 12) W (by decide) (by decide)
  have KV := fun W => kv_false (k := 12) W (by decide) (by decide)
  have KW := fun W => kw_false (k := 12) W (by decide) (by decide)
  have KL := fun W => kl_false (k := 12) W (by decide) (by decide)
  have T0 := Lib.hid (BA.start hw hp (acells ⟨12, x, s, t, path, data, fl, ve, wa, so, la, ti, fr, ms⟩ ⟨A, c, B, d, P, e'⟩ np))
  have T0k := Lib.hid (T0.out.keep ((Fr.refl NoB _).alloc (.cells #[.int .i64 fr, .int .i64 (ms.length : Int)] 3)))
  have h0r := (rdi_new (w.alloc (.cells (acells ⟨12, x, s, t, path, data, fl, ve, wa, so, la, ti, fr, ms⟩ ⟨A, c, B, d, P, e'⟩ np) 29)) [fr, (ms.length : Int)] 3)
  rw [World.size_alloc] at h0r
  have HR0 := Lib.hid h0r
  clear h0r
  simp only [aval, acells] at *
  clear hlim hM hms hpn hp hw hf
  go_enter Tryd.func29, Tryd.ntmps29
  go_wp2_with (first | ((with_reducible refine (KP _).mono ?_); rintro e w' ⟨rfl, rfl⟩) | ((with_reducible refine (KD _).mono ?_); rintro e w' ⟨rfl, rfl⟩) | ((with_reducible refine (KV _).mono ?_); rintro e w' ⟨rfl, rfl⟩) | ((with_reducible refine (KW _).mono ?_); rintro e w' ⟨rfl, rfl⟩) | ((with_reducible refine (KL _).mono ?_); rintro e w' ⟨rfl, rfl⟩) | fail)
  refine (ints_calls pw G L _ [fr, (ms.length : Int)] 2 _ _ _ T0k.out.a (by have := HL.out; simp only [List.length_cons, List.length_nil]; omega) HR0.out (by simp) (fun k h1 h2 h3 => T0.out.far k (by rw [World.size_alloc]; exact h1) h3) (fun z hz => by simp only [List.mem_cons, List.not_mem_nil, or_false] at hz; rcases hz with rfl | rfl; exact HFR.out; unfold OkI; omega)).mono ?_
  rintro e w2 ⟨rfl, G2, a2, f2, g2⟩
  have T2 := Lib.hid (T0k.out.next a2 f2 g2)
  clear a2 f2 g2 T0 T0k HR0
  have d2 := T2.out.cell 13 _ rfl
  go_wp2
  clear d2 KP KD KV KW
  have HL0 : Hid ((L ++ intsB [fr, (ms.length : Int)]).length ≤ 100030) := by
    have := HL.out
    have l1 := intsB_len [fr, (ms.length : Int)]
    show _ ≤ _
    simp only [List.length_append, List.length_cons, List.length_nil] at l1 ⊢
    omega
  have HLL : Hid (L ++ bodyA ⟨12, x, s, t, path, data, fl, ve, wa, so, la, ti, fr, ms⟩ = (L ++ intsB [fr, (ms.length : Int)]) ++ memsB ms) := by
    show _ = _
    simp [intsB, bodyA]
  generalize L ++ intsB [fr, (ms.length : Int)] = L0 at T2 HL0 HLL
  go_loopw [77] (fun i W => ∃ (k : Nat) (Gk : Option Nat), k ≤ ms.length ∧ i = .int .i64 (k : Int) ∧ BA w W pw G Gk (L0 ++ memsB (ms.take k)) w.heap.size (#[.int .u8 12, .int .i64 x, .int .i64 s, .int .i64 t, .string ⟨path.toArray⟩, .slice A data.length c, .int .i64 fl, .int .i64 ve, .bool wa, .int .u8 so, .int .i64 la, .int .i64 ti, .int .i64 fr, .slice B ms.length d, .slice P np e'])) (fun i _ => ms.length - (intOf i).toNat)
  case atStart => exact ⟨0, G2, Nat.zero_le _, rfl, T2.out.cast (by simp [memsB])⟩
  case round =>
    obtain ⟨k, Gk, hk, rfl, ht⟩ := hrel
    have T := Lib.hid ht
    clear ht T2
    by_cases hlt : k < ms.length
    · have hki : (k : Int) < (ms.length : Int) := by omega
      have hk0 : (0 : Int) ≤ (k : Int) := by omega
      obtain ⟨b, o, rfl, hb1, hb2, hcs⟩ := HM.out (by omega)
      obtain ⟨d0, d1, d2, d3⟩ := hcs k ms[k] (List.getElem?_eq_getElem hlt)
      have hom := HOK.out ms[k] (List.getElem_mem hlt)
      have htk : L0 ++ memsB (ms.take (k + 1)) = (L0 ++ memsB (ms.take k)) ++ memB ms[k] := by rw [List.take_succ_eq_append_getElem hlt, memsB_append, List.append_assoc]; simp [memsB]
      have hlen : (L0 ++ memsB (ms.take k)).length ≤ 721000 := by
        have h1 := memsB_len (ms.take k)
        have h2 := HL0.out
        rw [List.length_take] at h1
        rw [List.length_append]
        omega
      have HLEN := Lib.hid hlen
      have HTK := Lib.hid htk
      clear hcs hlen htk
      generalize ms[k] = m at d0 d1 d2 d3 hom HTK
      obtain ⟨m0, m1, m2, m3⟩ := m
      simp only at d0 d1 d2 d3
      have HOM := Lib.hid hom
      have e0 := (T.out.fr.cell (p := ⟨b, o + k * 4, none⟩) (by simp only; omega) (HPN.out b hb1 hb2)).trans d0
      have e1 := (T.out.fr.cell (p := ⟨b, o + k * 4 + 1, none⟩) (by simp only; omega) (HPN.out b hb1 hb2)).trans d1
      have e2 := (T.out.fr.cell (p := ⟨b, o + k * 4 + 2, none⟩) (by simp only; omega) (HPN.out b hb1 hb2)).trans d2
      have e3 := (T.out.fr.cell (p := ⟨b, o + k * 4 + 3, none⟩) (by simp only; omega) (HPN.out b hb1 hb2)).trans d3
      have hw2 : IntKind.i64.wrap m1 = m1 := by have := HOM.out.2.1; rw [IntKind.wrap_i64]; simp only at this; omega
      have hw1 : wrap64 m1 = m1 := by have := HOM.out.2.1; unfold wrap64; simp only at this; omega
      clear d0 d1 d2 d3 hom
      generalize L0 ++ memsB (ms.take k) = Lk at *
      have FA := Lib.hid (((Fr.refl NoB wr).alloc (.cells #[.int .i64 m0, .int .u8 m1, .int .i64 m2, .int .i64 m3] 106)).alloc (.cells #[.int .i64 m0, .int .i64 m1, .int .i64 m2, .int .i64 m3] 3))
      have T1 := Lib.hid (T.out.keep FA.out)
      have h0r := (rdi_new (wr.alloc (.cells #[.int .i64 m0, .int .u8 m1, .int .i64 m2, .int .i64 m3] 106)) [m0, m1, m2, m3] 3)
      rw [World.size_alloc] at h0r
      have HR := Lib.hid h0r
      clear h0r
      go_wp2_with (fail)
      refine (ints_calls pw Gk Lk _ [m0, m1, m2, m3] 4 _ _ _ T1.out.a (by have := HLEN.out; simp only [List.length_cons, List.length_nil]; omega) HR.out (by simp) (fun k h1 h2 h3 => T.out.far k (Nat.le_of_succ_le h1) h3) (fun z hz => by simp only [List.mem_cons, List.not_mem_nil, or_false] at hz; have hq := HOM.out; unfold OkM at hq; simp only at hq; unfold OkI; rcases hz with rfl | rfl | rfl | rfl <;> omega)).mono ?_
      rintro e w3 ⟨rfl, G3, a3, f3, g3⟩
      have T3 := Lib.hid (T1.out.next a3 f3 g3)
      clear a3 f3 g3 T1 FA HR
      go_wp2
      go_roundw
      case rel => exact ⟨k + 1, G3, by omega, by go_num, T3.out.cast (by rw [HTK.out]; simp [intsB, memB])⟩
      case measure => simp [intOf]; omega
    · obtain rfl : k = ms.length := by omega
      have T9 := T.out
      rw [List.take_length] at T9
      have TE := Lib.hid T9
      clear T9 T
      go_wp2_with (first | ((with_reducible refine (KL _).mono ?_); rintro e w' ⟨rfl, rfl⟩) | fail)
      go_end0
      exact ⟨rfl, TE.out.put.cast HLL.out.symm⟩
end Go.Proofs.YtlckgkpgllhpbaaDoor
