/-
  Dee: Dec, Ded, Dee.
-/
import Derived.Test.YtmlmbahimklfiaaGreatDoorDfa
import Derived.Test.YtmlmbahimklfiaaGreatDoorDfc
import Derived.Test.YtmlmbahimklfiaaGreatDoorDez
import Derived.Deep.MidRow
import Derived.Deep.WholeRow
/- Dec -/
namespace Go.Proofs.YtmlmbahimklfiaaGreatDoor
open Go.RowKit

theorem FitsD.kind {f : Fd} {np : Nat} (h : FitsD f np) : 1 ≤ f.k ∧ f.k ≤ 9 := by
  rcases h with h | h | h | h | h | h | h | h | h <;> (have := h.1; omega)
set_option maxHeartbeats 1600000 in
theorem dfits_calls (f : Fd) (p : Pl) (np : Nat) (w : World) (hf : f.Ok) (hn : np ≤ 140737488355328) (hH : Has w) :
    Calls Tryz.prog 103 #[dval f p np] w fun e w' => e = .returned (.bool (decide (FitsD f np))) ∧ Fr NoB w w' := by
  by_cases hk : 1 ≤ f.k ∧ f.k ≤ 9
  · rcases (show f.k = 1 ∨ f.k = 2 ∨ f.k = 3 ∨ f.k = 4 ∨ f.k = 5 ∨ f.k = 6 ∨ f.k = 7 ∨ f.k = 8 ∨ f.k = 9 by omega) with h | h | h | h | h | h | h | h | h
    · exact fits1_calls f p np w hf hn hH h
    · exact fits2_calls f p np w hf hn hH h
    · exact fits3_calls f p np w hf hn hH h
    · exact fits4_calls f p np w hf hn hH h
    · exact fits5_calls f p np w hf hn hH h
    · exact fits6_calls f p np w hf hn hH h
    · exact fits7_calls f p np w hf hn hH h
    · exact fits8_calls f p np w hf hn hH h
    · exact fits9_calls f p np w hf hn hH h
  · rw [decide_eq_false (fun h => hk h.kind)]
    have hk0 := hf.k
    have hk2 : f.k < 1 ∨ 9 < f.k := by omega
    clear hk
    obtain ⟨z, k, s, t, x, m, path, data, ow, ve, cv, ti, er, cver, ms⟩ := f
    obtain ⟨A, c, B, d, P, e'⟩ := p
    clear hf hH
    simp only [dval, dcells] at *
    rcases hk2 with hk2 | hk2
    · go_enter Tryz.func103, Tryz.ntmps103
      go_wp2
      all_goals first
        | (go_ret; exact ⟨rfl, (Fr.refl NoB w).alloc _⟩)
        | (exfalso; omega)
        | trace_state
    · have hk3 : ¬ k < 1 := by omega
      go_enter Tryz.func103, Tryz.ntmps103
      go_wp2
      all_goals first
        | (go_ret; exact ⟨rfl, (Fr.refl NoB w).alloc _⟩)
        | (exfalso; omega)
        | trace_state
end Go.Proofs.YtmlmbahimklfiaaGreatDoor

/- Ded -/
namespace Go.Proofs.YtmlmbahimklfiaaGreatDoor
open Go.RowKit

/-- Parts in memory: the cells of each, and what its lists read as. -/
def RdP (w : World) (lo hi : Nat) (A : Option Addr) (l : List (Fd × Nat)) : Prop :=
  0 < l.length → ∃ b o, A = some ⟨b, o, none⟩ ∧ lo ≤ b ∧ b < hi ∧ ∀ i q, l[i]? = some q → ∃ pl : Pl, (∀ j v, (dcells q.1 pl q.2)[j]? = some v → w.cell? ⟨b, o + i * 16 + j, none⟩ = some v) ∧ Rd w lo hi pl.A q.1.data ∧ RdM w lo hi pl.B q.1.c.2
theorem RdP.nil (w : World) (lo hi : Nat) (A : Option Addr) : RdP w lo hi A [] := fun h => absurd h (by simp)
theorem RdP.fr {M : Nat → Prop} {w w' : World} {lo hi : Nat} {A : Option Addr} {l : List (Fd × Nat)} (h : RdP w lo hi A l) (hf : Fr M w w') (hh : hi ≤ w.heap.size) (hm : ∀ k, lo ≤ k → k < hi → ¬ M k) : RdP w' lo hi A l := fun hl => by
  obtain ⟨b, o, h1, h2, h3, h4⟩ := h hl
  refine ⟨b, o, h1, h2, h3, fun i q hq => ?_⟩
  obtain ⟨pl, k1, k2, k3⟩ := h4 i q hq
  exact ⟨pl, fun j v hv => (hf.cell (p := ⟨b, o + i * 16 + j, none⟩) (Nat.lt_of_lt_of_le h3 hh) (hm _ h2 h3)).trans (k1 j v hv), k2.fr hf hh hm, k3.fr hf hh hm⟩

theorem size16 : (Tryz.prog.info? 31).map (·.size) = some 16 := by kernel_rfl
theorem size_deed (f : Fd) (p : Pl) (np : Nat) : (Tryz.prog.info? 31).map (·.size) = some (dcells f p np).toList.length := size16
theorem part_range {w : World} {b a np : Nat} {f : Fd} {p : Pl} (h : ∀ j v, (dcells f p np)[j]? = some v → w.cell? ⟨b, a + j, none⟩ = some v) : w.rangeAt b a (dcells f p np).toList :=
  fun j v hv => h j v (by simpa using hv)
theorem isPart2 {f : Fd} {np : Nat} : IsPart 2 (f, np) ↔ (f.z = 0 ∧ f.s = 0 ∧ f.t = 0 ∧ f.x = 0 ∧ f.m = 0) ∧ FitsD f np ∧ f.k = 2 :=
  ⟨fun ⟨a, b, c, d, e, g, _, i⟩ => ⟨⟨a, b, c, d, e⟩, g, i rfl⟩, fun ⟨⟨a, b, c, d, e⟩, g, i⟩ => ⟨a, b, c, d, e, g, by simp only; omega, fun _ => i⟩⟩
theorem isPart3 {f : Fd} {np : Nat} : IsPart 3 (f, np) ↔ (f.z = 0 ∧ f.s = 0 ∧ f.t = 0 ∧ f.x = 0 ∧ f.m = 0) ∧ FitsD f np ∧ f.k ≤ 3 :=
  ⟨fun ⟨a, b, c, d, e, g, h, _⟩ => ⟨⟨a, b, c, d, e⟩, g, h⟩, fun ⟨⟨a, b, c, d, e⟩, g, i⟩ => ⟨a, b, c, d, e, g, i, fun h => absurd h (by decide)⟩⟩

set_option maxHeartbeats 3200000 in
set_option maxRecDepth 8000 in
theorem dparts_calls (A : Option Addr) (l : List (Fd × Nat)) (c lo hi least most : Nat) (last : Int) (w : World) (h : RdP w lo hi A l) (hh : hi ≤ w.heap.size) (hl : l.length ≤ 140737488355328) (hok : ∀ q ∈ l, q.1.Ok ∧ q.2 ≤ 140737488355328) (hH : Has w) (_hm : least ≤ 1000 ∧ most ≤ 1000) (hlast : last = 2 ∨ last = 3) :
    Calls Tryz.prog 104 #[.slice A l.length c, .int .i64 least, .int .i64 most, .int .u8 last] w fun e w' => e = .returned (.bool (decide (PartsOk l least most last))) ∧ Fr NoB w w' := by
  by_cases hn : least ≤ l.length ∧ l.length ≤ most
  rotate_left
  · rw [decide_eq_false (fun h => hn ⟨h.1, h.2.1⟩)]
    by_cases h1 : l.length < least
    · as_aux_lemma =>
      have h1i : (l.length : Int) < (least : Int) := by omega
      go_enter Tryz.func104, Tryz.ntmps104
      go_wp2
      all_goals first
        | (go_ret; exact ⟨rfl, Fr.refl _ _⟩)
        | trace_state
    · as_aux_lemma =>
      have h1i : ¬ (l.length : Int) < (least : Int) := by omega
      have h2i : (most : Int) < (l.length : Int) := by omega
      go_enter Tryz.func104, Tryz.ntmps104
      go_wp2
      all_goals first
        | (go_ret; exact ⟨rfl, Fr.refl _ _⟩)
        | trace_state
  have h1i : ¬ (l.length : Int) < (least : Int) := by omega
  have h2i : ¬ (most : Int) < (l.length : Int) := by omega
  generalize hRR : decide (PartsOk l least most last) = R
  have HRR := Lib.hid hRR
  clear hRR
  go_enter Tryz.func104, Tryz.ntmps104
  go_wp2
  have HR := Lib.hid h
  have HOK := Lib.hid hok
  have HH := Lib.hid hH
  clear h hok hH
  go_loopw [23] (fun i W => ∃ k : Nat, k ≤ l.length ∧ i = .int .i64 (k : Int) ∧ (∀ q ∈ l.take k, IsPart last q) ∧ Fr NoB w W) (fun i _ => l.length - (intOf i).toNat)
  case atStart => exact ⟨0, Nat.zero_le _, rfl, by simp, Fr.refl _ _⟩
  case round =>
    obtain ⟨k, hk, rfl, hsofar, hf⟩ := hrel
    have F := Lib.hid hf
    have HS := Lib.hid hsofar
    clear hf hsofar
    by_cases hlt : k < l.length
    · have hki : (k : Int) < (l.length : Int) := by omega
      obtain ⟨b, o, rfl, hb1, hb2, h4⟩ := HR.out (by omega)
      obtain ⟨pl, hcs, -, -⟩ := h4 k l[k] (List.getElem?_eq_getElem hlt)
      have hq := HOK.out l[k] (List.getElem_mem hlt)
      clear h4
      have HQ : l[k]? = some l[k] := List.getElem?_eq_getElem hlt
      generalize l[k] = q at hcs hq HQ
      have HQ2 := Lib.hid HQ
      clear HQ
      obtain ⟨f, np⟩ := q
      have HC : ∀ j v, (dcells f pl np)[j]? = some v → wr.cell? ⟨b, o + k * 16 + j, none⟩ = some v := fun j v hv => (F.out.cell (p := ⟨b, o + k * 16 + j, none⟩) (by simp only; omega) (fun x => x)).trans (hcs j v hv)
      obtain ⟨z, kk, s, t, x, m, path, data, ow, ve, cv, ti, er, cver, ms⟩ := f
      obtain ⟨A, ca, B, cb, P, cp⟩ := pl
      have hL := Lib.hid (part_range HC)
      clear HC hcs
      have HN : Hid (¬ IsPart last (⟨z, kk, s, t, x, m, path, data, ow, ve, cv, ti, er, (cver, ms)⟩, np) → R = false) := fun h => by
        rw [← HRR.out]
        exact decide_eq_false fun hp => h (hp.2.2 _ (List.mem_iff_getElem?.2 ⟨k, HQ2.out⟩))
      have HY : Hid (IsPart last (⟨z, kk, s, t, x, m, path, data, ow, ve, cv, ti, er, (cver, ms)⟩, np) → ∀ q ∈ l.take (k + 1), IsPart last q) := fun h q hq => by
        rw [List.take_add_one, HQ2.out] at hq
        rcases List.mem_append.1 hq with hq | hq
        · exact HS.out q hq
        · simp at hq
          rw [hq]
          exact h
      clear HS HRR hn _hm
      have hk8 := hq.1.k
      simp only at hk8
      by_cases h0 : z = 0 ∧ s = 0 ∧ t = 0 ∧ x = 0 ∧ m = 0
      rotate_left
      · as_aux_lemma =>
        have hR : R = false := HN.out fun h => h0 ⟨h.1, h.2.1, h.2.2.1, h.2.2.2.1, h.2.2.2.2.1⟩
        subst hR
        clear HN HY HQ2 hq HR
        go_wp2_with (first | (refine wpList_load_mid rfl 31 _ rfl b (o + k * 16) rfl _ _ hL.out Tryz.underlying31 rfl (size_deed _ _ _) ?_; simp only [dcells]) | (refine wpList_store_row rfl 31 _ _ rfl wr.heap.size _ rfl rfl _ _ (heap_alloc_last wr _) size16 rfl (by simp [Value.oneCell']) ?_; rw [World.setRow_alloc_new]))
        all_goals first
          | (go_ret; exact ⟨rfl, F.out.alloc _⟩)
          | (exfalso; omega)
      obtain ⟨rfl, rfl, rfl, rfl, rfl⟩ := h0
      have hcf := fun W (hW : Has W) => dfits_calls ⟨0, kk, 0, 0, 0, 0, path, data, ow, ve, cv, ti, er, (cver, ms)⟩ ⟨A, ca, B, cb, P, cp⟩ np W hq.1 hq.2 hW
      by_cases hfd : FitsD ⟨0, kk, 0, 0, 0, 0, path, data, ow, ve, cv, ti, er, (cver, ms)⟩ np
      rotate_left
      · as_aux_lemma =>
        have hR : R = false := HN.out fun h => hfd h.2.2.2.2.2.1
        subst hR
        rw [decide_eq_false hfd] at hcf
        simp only [dval, dcells] at hcf
        clear HN HY HQ2 hq HR hfd
        go_wp2_with (first | (refine wpList_load_mid rfl 31 _ rfl b (o + k * 16) rfl _ _ hL.out Tryz.underlying31 rfl (size_deed _ _ _) ?_; simp only [dcells]) | (refine wpList_store_row rfl 31 _ _ rfl wr.heap.size _ rfl rfl _ _ (heap_alloc_last wr _) size16 rfl (by simp [Value.oneCell']) ?_; rw [World.setRow_alloc_new]) | ((with_reducible refine (hcf _ (HH.out.fr (F.out.alloc _))).mono ?_); rintro e w2 ⟨rfl, f2⟩))
        all_goals first
          | (go_ret; exact ⟨rfl, (F.out.alloc _).then f2⟩)
          | trace_state
      rw [decide_eq_true hfd] at hcf
      simp only [dval, dcells] at hcf
      have HFD := Lib.hid hfd
      clear HQ2 hq HR hfd
      rcases hlast with rfl | rfl
      · by_cases hkk : kk = 2
        · as_aux_lemma =>
          subst hkk
          go_wp2_with (first | (refine wpList_load_mid rfl 31 _ rfl b (o + k * 16) rfl _ _ hL.out Tryz.underlying31 rfl (size_deed _ _ _) ?_; simp only [dcells]) | (refine wpList_store_row rfl 31 _ _ rfl wr.heap.size _ rfl rfl _ _ (heap_alloc_last wr _) size16 rfl (by simp [Value.oneCell']) ?_; rw [World.setRow_alloc_new]) | ((with_reducible refine (hcf _ (HH.out.fr (F.out.alloc _))).mono ?_); rintro e w2 ⟨rfl, f2⟩; have c1 := (cells_of (f2.at_ (heap_alloc_new wr _) (fun x => x)) 1).1; simp only [List.getElem?_toArray, List.getElem?_cons_zero, List.getElem?_cons_succ] at c1))
          refine ⟨⟨k + 1, by omega, by go_num, HY.out (isPart2.2 ⟨⟨rfl, rfl, rfl, rfl, rfl⟩, HFD.out, rfl⟩), (F.out.alloc _).then f2⟩, ?_⟩
          simp [intOf]
          omega
        · as_aux_lemma =>
          have hR : R = false := HN.out fun h => hkk (isPart2.1 h).2.2
          subst hR
          have hne : (kk != 2) = true := by simpa using hkk
          clear HN HY HFD
          go_wp2_with (first | (refine wpList_load_mid rfl 31 _ rfl b (o + k * 16) rfl _ _ hL.out Tryz.underlying31 rfl (size_deed _ _ _) ?_; simp only [dcells]) | (refine wpList_store_row rfl 31 _ _ rfl wr.heap.size _ rfl rfl _ _ (heap_alloc_last wr _) size16 rfl (by simp [Value.oneCell']) ?_; rw [World.setRow_alloc_new]) | ((with_reducible refine (hcf _ (HH.out.fr (F.out.alloc _))).mono ?_); rintro e w2 ⟨rfl, f2⟩; have c1 := (cells_of (f2.at_ (heap_alloc_new wr _) (fun x => x)) 1).1; simp only [List.getElem?_toArray, List.getElem?_cons_zero, List.getElem?_cons_succ] at c1))
          all_goals (go_ret; exact ⟨rfl, (F.out.alloc _).then f2⟩)
      · by_cases hkk : kk ≤ 3
        · as_aux_lemma =>
          go_wp2_with (first | (refine wpList_load_mid rfl 31 _ rfl b (o + k * 16) rfl _ _ hL.out Tryz.underlying31 rfl (size_deed _ _ _) ?_; simp only [dcells]) | (refine wpList_store_row rfl 31 _ _ rfl wr.heap.size _ rfl rfl _ _ (heap_alloc_last wr _) size16 rfl (by simp [Value.oneCell']) ?_; rw [World.setRow_alloc_new]) | ((with_reducible refine (hcf _ (HH.out.fr (F.out.alloc _))).mono ?_); rintro e w2 ⟨rfl, f2⟩; have c1 := (cells_of (f2.at_ (heap_alloc_new wr _) (fun x => x)) 1).1; simp only [List.getElem?_toArray, List.getElem?_cons_zero, List.getElem?_cons_succ] at c1))
          refine ⟨⟨k + 1, by omega, by go_num, HY.out (isPart3.2 ⟨⟨rfl, rfl, rfl, rfl, rfl⟩, HFD.out, hkk⟩), (F.out.alloc _).then f2⟩, ?_⟩
          simp [intOf]
          omega
        · as_aux_lemma =>
          have hR : R = false := HN.out fun h => hkk (isPart3.1 h).2.2
          subst hR
          clear HN HY HFD
          go_wp2_with (first | (refine wpList_load_mid rfl 31 _ rfl b (o + k * 16) rfl _ _ hL.out Tryz.underlying31 rfl (size_deed _ _ _) ?_; simp only [dcells]) | (refine wpList_store_row rfl 31 _ _ rfl wr.heap.size _ rfl rfl _ _ (heap_alloc_last wr _) size16 rfl (by simp [Value.oneCell']) ?_; rw [World.setRow_alloc_new]) | ((with_reducible refine (hcf _ (HH.out.fr (F.out.alloc _))).mono ?_); rintro e w2 ⟨rfl, f2⟩; have c1 := (cells_of (f2.at_ (heap_alloc_new wr _) (fun x => x)) 1).1; simp only [List.getElem?_toArray, List.getElem?_cons_zero, List.getElem?_cons_succ] at c1))
          all_goals (go_ret; exact ⟨rfl, (F.out.alloc _).then f2⟩)
    · as_aux_lemma =>
      obtain rfl : k = l.length := by omega
      have hall : PartsOk l least most last := ⟨hn.1, hn.2, by have := HS.out; rwa [List.take_length] at this⟩
      have hR := HRR.out
      rw [decide_eq_true hall] at hR
      subst hR
      go_wp2
      go_ret
      exact ⟨rfl, F.out⟩
end Go.Proofs.YtmlmbahimklfiaaGreatDoor

/- Dee -/
namespace Go.Proofs.YtmlmbahimklfiaaGreatDoor
open Go.RowKit

/-- A deed in memory: what its lists read as. -/
structure RdD (w : World) (lo hi : Nat) (f : Fd) (p : Pl) (l : List (Fd × Nat)) : Prop where
  data : Rd w lo hi p.A f.data
  ms : RdM w lo hi p.B f.c.2
  parts : RdP w lo hi p.P l
theorem RdD.fr {M : Nat → Prop} {w w' : World} {lo hi : Nat} {f : Fd} {p : Pl} {l : List (Fd × Nat)} (h : RdD w lo hi f p l) (hf : Fr M w w') (hh : hi ≤ w.heap.size) (hm : ∀ k, lo ≤ k → k < hi → ¬ M k) : RdD w' lo hi f p l :=
  ⟨h.data.fr hf hh hm, h.ms.fr hf hh hm, h.parts.fr hf hh hm⟩
theorem RdP.wide {w : World} {lo hi lo' hi' : Nat} {A : Option Addr} {l : List (Fd × Nat)} (h : RdP w lo hi A l) (h1 : lo' ≤ lo) (h2 : hi ≤ hi') : RdP w lo' hi' A l := fun hl => by
  obtain ⟨b, o, a1, a2, a3, a4⟩ := h hl
  refine ⟨b, o, a1, by omega, by omega, fun i q hq => ?_⟩
  obtain ⟨pl, k1, k2, k3⟩ := a4 i q hq
  exact ⟨pl, k1, k2.wide h1 h2, k3.wide h1 h2⟩

theorem may_calls (z : Int) (w : World) (hz0 : -9223372036854775808 ≤ z ∧ z ≤ 9223372036854775807) :
    Calls Tryz.prog 102 #[.int .i64 z] w fun r w' => r = .returned (.bool (decide (May z))) ∧ w' = w := by
  by_cases hb : May z
  · rw [decide_eq_true hb]
    obtain ⟨h1, h2⟩ := hb
    go_enter Tryz.func102, Tryz.ntmps102
    go_wp2
    all_goals first
      | (exfalso; (try simp at *); omega)
      | (go_ret; exact ⟨rfl, rfl⟩)
      | (go_ret; exact ⟨ret_bool (by simp; omega), rfl⟩)
  · rw [decide_eq_false hb]
    unfold May at hb
    go_enter Tryz.func102, Tryz.ntmps102
    go_wp2
    all_goals first
      | (go_ret; exact ⟨rfl, rfl⟩)
      | (go_ret; exact ⟨ret_bool (by simp; omega), rfl⟩)
      | (exfalso; (try simp at *); omega)

/-- What is asked ahead of a kind's own. -/
def Head (f : Fd) (np : Nat) : Prop := 1 ≤ f.z ∧ May f.z ∧ 0 ≤ f.s ∧ 0 ≤ f.t ∧ 0 ≤ f.x ∧ 0 ≤ f.m ∧ FitsD f np
instance (f : Fd) (np : Nat) : Decidable (Head f np) := by unfold Head; infer_instance

set_option maxHeartbeats 3200000 in
set_option maxRecDepth 8000 in
theorem right_no (f : Fd) (p : Pl) (np : Nat) (w : World) (hf : f.Ok) (hn : np ≤ 140737488355328) (hH : Has w) (hno : ¬ Head f np) :
    Calls Tryz.prog 46 #[dval f p np] w fun e w' => e = .returned (.bool false) ∧ Fr NoB w w' := by
  have hcm := fun W => may_calls f.z W hf.z
  have hcf := fun W (hW : Has W) => dfits_calls f p np W hf hn hW
  have HH := Lib.hid hH
  have HNO := Lib.hid hno
  obtain ⟨z, k, s, t, x, m, path, data, ow, ve, cv, ti, er, cver, ms⟩ := f
  obtain ⟨A, c, B, d, P, e'⟩ := p
  simp only at hcm
  generalize hmm : decide (May z) = bm at hcm
  generalize hff : decide (FitsD ⟨z, k, s, t, x, m, path, data, ow, ve, cv, ti, er, (cver, ms)⟩ np) = bf at hcf
  simp only [dval, dcells] at *
  have hz : 1 ≤ z ∧ bm = true ∧ 0 ≤ s ∧ 0 ≤ t ∧ 0 ≤ x ∧ 0 ≤ m → bf = false := fun ⟨h1, h2, h3, h4, h5, h6⟩ => by
    rw [h2] at hmm
    rw [← hff]
    exact decide_eq_false fun h => HNO.out ⟨h1, of_decide_eq_true hmm, h3, h4, h5, h6, h⟩
  have HZ := Lib.hid hz
  clear hf hH hno HNO hmm hff hz
  go_enter Tryz.func46, Tryz.ntmps46
  go_wp2_with (first
    | ((with_reducible refine (hcm _).mono ?_); rintro e w1 ⟨rfl, rfl⟩)
    | (have hbf : bf = false := HZ.out ⟨by assumption, by assumption, by assumption, by assumption, by assumption, by assumption⟩; subst hbf; (with_reducible refine (hcf _ (HH.out.fr ((Fr.refl NoB w).alloc _))).mono ?_); rintro e w2 ⟨rfl, f2⟩))
  all_goals first
    | (go_ret; exact ⟨rfl, (Fr.refl NoB w).alloc _⟩)
    | (go_ret; exact ⟨rfl, ((Fr.refl NoB w).alloc _).then f2⟩)
    | trace_state

set_option maxHeartbeats 3200000 in
set_option maxRecDepth 8000 in
theorem right_else (f : Fd) (p : Pl) (l : List (Fd × Nat)) (lo hi : Nat) (w : World) (hf : f.Ok) (hn : l.length ≤ 140737488355328) (_hok : ∀ q ∈ l, q.1.Ok ∧ q.2 ≤ 140737488355328) (_hD : RdD w lo hi f p l) (_hh : hi ≤ w.heap.size) (hH : Has w) (hy : Head f l.length) (h5 : f.k ≠ 5) (h7 : f.k ≠ 7) (h8 : f.k ≠ 8) :
    Calls Tryz.prog 46 #[dval f p l.length] w fun e w' => e = .returned (.bool (true)) ∧ Fr NoB w w' := by
  have hcm := fun W => may_calls f.z W hf.z
  have hcf := fun W (hW : Has W) => dfits_calls f p l.length W hf hn hW
  have HH := Lib.hid hH
  rw [decide_eq_true hy.2.1] at hcm
  rw [decide_eq_true hy.2.2.2.2.2.2] at hcf
  obtain ⟨h1, -, h2, h3, h4, h5, -⟩ := hy
  clear hH _hD _hok
  obtain ⟨z, k, s, t, x, m, path, data, ow, ve, cv, ti, er, cver, ms⟩ := f
  obtain ⟨A, c, B, d, P, e'⟩ := p
  simp only at *
  simp only [dval, dcells] at *
  clear hf
  go_enter Tryz.func46, Tryz.ntmps46
  go_wp2_with (first
    | ((with_reducible refine (hcm _).mono ?_); rintro e w1 ⟨rfl, rfl⟩)
    | ((with_reducible refine (hcf _ (HH.out.fr ((Fr.refl NoB w).alloc _))).mono ?_); rintro e w2 ⟨rfl, f2⟩; have hb := f2.at_ (heap_alloc_new w _) (fun x => x); have d0 := (cells_of hb 0).1; have d1 := (cells_of hb 1).1; have d13 := (cells_of hb 13).1; have d14 := (cells_of hb 14).1; have d15 := (cells_of hb 15).1; clear hb; simp only [List.getElem?_toArray, List.getElem?_cons_zero, List.getElem?_cons_succ] at d0 d1 d13 d14 d15))
  all_goals first
    | (go_ret; exact ⟨rfl, ((Fr.refl NoB w).alloc _).then f2⟩)
    | trace_state
end Go.Proofs.YtmlmbahimklfiaaGreatDoor
