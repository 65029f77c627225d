/-
  Req: the document's RightReply of any reply; PutReply.
-/
import Derived.Test.YtlckgkpgllhpbaaDoorRay
import Derived.Test.YtlckgkpgllhpbaaDoorRep
namespace Go.Proofs.YtlckgkpgllhpbaaDoor
open Go.RowKit

theorem gdec (F : Fy) (k a0 a1 a2 a3 a4 : Int) (path data : List UInt8) (b0 b1 b2 b3 b4 b5 b6 b7 b8 b9 : Int) (ls : List (List UInt8)) (v : Int) (ms : List Mem) (hF : F = ⟨k, [a0, a1, a2, a3, a4], path, data, [b0, b1, b2, b3, b4, b5, b6, b7, b8, b9], ls, (v, ms)⟩) (np : Nat) (deep : Bool) :
    (g5 k a0 a1 a2 a3 a4 path data = false ∧ g6 b0 b1 b2 b3 b4 b5 b6 b7 b8 b9 ls = false ∧ g7 ls = false ∧ g8 deep (v == 0 && (ms.length : Int) == 0) (chk v ms) np ls = false) ↔ (AnsY F np ∧ (deep = true ∨ (np = 0 ∧ ls = []))) := by
  subst hF
  have e7 : g7 ls = false ↔ ∀ t ∈ ls, t.length ≤ 220 := by
    unfold g7
    rw [List.any_eq_false]
    simp only [decide_eq_true_eq, Nat.not_lt]
  have ez : (v == 0 && (ms.length : Int) == 0) = true ↔ Fy.cz ⟨k, [a0, a1, a2, a3, a4], path, data, [b0, b1, b2, b3, b4, b5, b6, b7, b8, b9], ls, (v, ms)⟩ := by
    unfold Fy.cz
    simp only [Bool.and_eq_true, beq_iff_eq]
    constructor
    · rintro ⟨h1, h2⟩; exact ⟨h1, List.eq_nil_of_length_eq_zero (by omega)⟩
    · rintro ⟨h1, h2⟩; exact ⟨h1, by rw [h2]; rfl⟩
  have ez2 : (v == 0 && (ms.length : Int) == 0) = false ↔ ¬ Fy.cz ⟨k, [a0, a1, a2, a3, a4], path, data, [b0, b1, b2, b3, b4, b5, b6, b7, b8, b9], ls, (v, ms)⟩ := by rw [← ez, Bool.not_eq_true]
  have el : (ls.length = 0) ↔ ls = [] := List.length_eq_zero_iff
  have e8 : g8 deep (v == 0 && (ms.length : Int) == 0) (chk v ms) np ls = false ↔ (Fy.cz ⟨k, [a0, a1, a2, a3, a4], path, data, [b0, b1, b2, b3, b4, b5, b6, b7, b8, b9], ls, (v, ms)⟩ ∨ chk v ms = 0) ∧ (deep = true ∨ (np = 0 ∧ ls = [])) ∧ np ≤ 16 := by
    unfold g8
    simp only [Bool.or_eq_false_iff, Bool.and_eq_false_imp, decide_eq_false_iff_not, Bool.not_eq_true', ez2, bne_eq_false_iff_eq]
    constructor
    · rintro ⟨h1, h2, h3⟩
      refine ⟨?_, ?_, by omega⟩
      · by_cases hc : Fy.cz ⟨k, [a0, a1, a2, a3, a4], path, data, [b0, b1, b2, b3, b4, b5, b6, b7, b8, b9], ls, (v, ms)⟩
        · exact .inl hc
        · exact .inr (h1 hc)
      · cases deep
        · have := h2 rfl
          exact .inr ⟨by omega, el.1 (by omega)⟩
        · exact .inl rfl
    · rintro ⟨h1, h2, h3⟩
      refine ⟨fun hc => h1.resolve_left hc, fun hd => ?_, by omega⟩
      have := h2.resolve_left (by rw [hd]; simp)
      rw [this.1, this.2]
      simp
  rw [e7, e8]
  unfold g5 g6 AnsY
  simp only [Bool.or_eq_false_iff, decide_eq_false_iff_not, List.getD_cons_zero, List.getD_cons_succ, List.mem_cons, List.not_mem_nil, or_false, forall_eq_or_imp, forall_eq]
  constructor
  · rintro ⟨⟨p1, p2, p3, p4, p5, p6, p7, p8, p9, p10⟩, ⟨q0, q1, q2, q3, q4, q5, q6, q7, q8, q9, q10⟩, r, s1, s2, s3⟩
    exact ⟨⟨⟨by omega, by omega⟩, ⟨by omega, by omega, by omega, by omega, by omega⟩, by omega, by omega, by omega, ⟨by omega, by omega, by omega, by omega, by omega, by omega, by omega, by omega, by omega, by omega⟩, by omega, r, s1, s3⟩, s2⟩
  · rintro ⟨⟨⟨p1, p2⟩, ⟨q1, q2, q3, q4, q5⟩, p3, p4, p5, ⟨r0, r1, r2, r3, r4, r5, r6, r7, r8, r9⟩, p6, p7, s1, s3⟩, s2⟩
    exact ⟨⟨by omega, by omega, by omega, by omega, by omega, by omega, by omega, by omega, by omega, by omega⟩, ⟨by omega, by omega, by omega, by omega, by omega, by omega, by omega, by omega, by omega, by omega, by omega⟩, p7, s1, s2, s3⟩
theorem not4 {a b c d e : Bool} : (!a && (!b && (!c && (!d && !e)))) = true ↔ (a = false ∧ b = false ∧ c = false ∧ d = false) ∧ e = false := by cases a <;> cases b <;> cases c <;> cases d <;> cases e <;> simp
theorem any_part (l : List (Fy × Nat)) : (l.any fun q => !decide (PartY q)) = false ↔ ∀ q ∈ l, PartY q := by
  rw [List.any_eq_false]
  simp
theorem ransf_calls (lo hi : Nat) (q : Fy × Nat) (hq : q.1.Ok) : RAnsFlat lo hi q := by
  intro pl w h1 h2 h3 hh
  obtain ⟨f, np⟩ := q
  obtain ⟨k, hd, path, data, st, ls, v, ms⟩ := f
  have hl := hq.hl
  have sl := hq.sl
  have hm := hq.ms
  simp only at hl sl hm
  obtain ⟨a0, a1, a2, a3, a4, rfl⟩ := len5 hl
  obtain ⟨b0, b1, b2, b3, b4, b5, b6, b7, b8, b9, rfl⟩ := len10 sl
  have hc := rans_core k a0 a1 a2 a3 a4 path pl.A data pl.c b0 b1 b2 b3 b4 b5 b6 b7 b8 b9 pl.L ls pl.n v pl.B ms pl.d pl.P np pl.e false [] lo hi w h2 h3 (RdPy.nil _ _ _ _) hh (by omega) (fun h => h.elim (fun h => absurd h (by simp)) id) (fun q hq => by cases hq)
  refine hc.mono ?_
  rintro e w' ⟨rfl, f⟩
  refine ⟨?_, f⟩
  congr 2
  rw [Bool.eq_iff_iff, not4, gdec _ k a0 a1 a2 a3 a4 path data b0 b1 b2 b3 b4 b5 b6 b7 b8 b9 ls v ms rfl np false, decide_eq_true_eq]
  unfold PartY
  simp
theorem ransd_calls (f : Fy) (pl : Py) (l : List (Fy × Nat)) (lo hi : Nat) (w : World) (hf : f.Ok) (hok : ∀ q ∈ l, q.1.Ok) (_hl : l.length ≤ 140737488355328) (h : RdY w lo hi f pl l) (hh : hi ≤ w.heap.size) :
    Calls Tryd.prog 40 #[yval f pl l.length, .bool true] w fun e w' => e = .returned (.bool (decide (RightY f l))) ∧ Fr NoB w w' := by
  obtain ⟨k, hd, path, data, st, ls, v, ms⟩ := f
  have hl := hf.hl
  have sl := hf.sl
  have hm := hf.ms
  simp only at hl sl hm
  obtain ⟨a0, a1, a2, a3, a4, rfl⟩ := len5 hl
  obtain ⟨b0, b1, b2, b3, b4, b5, b6, b7, b8, b9, rfl⟩ := len10 sl
  have hc := rans_core k a0 a1 a2 a3 a4 path pl.A data pl.c b0 b1 b2 b3 b4 b5 b6 b7 b8 b9 pl.L ls pl.n v pl.B ms pl.d pl.P l.length pl.e true l lo hi w h.ls h.ms h.parts hh (by omega) (fun _ => rfl) (fun q hq => ransf_calls lo hi q (hok q hq))
  refine hc.mono ?_
  rintro e w' ⟨rfl, f⟩
  refine ⟨?_, f⟩
  congr 2
  rw [Bool.eq_iff_iff, not4, gdec _ k a0 a1 a2 a3 a4 path data b0 b1 b2 b3 b4 b5 b6 b7 b8 b9 ls v ms rfl l.length true, any_part, decide_eq_true_eq]
  unfold RightY
  simp
theorem ryputx_calls (f : Fy) (pl : Py) (l : List (Fy × Nat)) (pw : Nat) (G : Option Nat) (K0 : Nat) (hK0 : K0 ≤ 1000000000) (L0 : List UInt8) (lo hi : Nat) (w : World) (hok : f.Ok) (hans : AnsY f l.length) (hw : RWt w pw G L0) (hlim : L0.length ≤ K0) (h : RdY w lo hi f pl l) (hh : hi ≤ w.heap.size) (hpn : ∀ k, lo ≤ k → k < hi → ¬ WF pw G k) (hps : ∀ q ∈ l, PartY q ∧ q.1.Ok ∧ RPutFlat pw lo hi (K0 + 1300000) q) :
    Calls Tryd.prog 41 #[.pointer (some ⟨pw, 0, none⟩), yval f pl l.length] w fun e w' => e = .returned (.tuple #[]) ∧ RPut pw G (L0 ++ replyB f l) w w' := by
  obtain ⟨k, hd, path, data, st, ls, c⟩ := f
  obtain ⟨v, ms⟩ := c
  have hl := hok.hl
  have sl := hok.sl
  simp only at hl sl
  match hd, hl with
  | [a0, a1, a2, a3, a4], _ =>
    match st, sl with
    | [b0, b1, b2, b3, b4, b5, b6, b7, b8, b9], _ =>
      exact ryput_core k a0 a1 a2 a3 a4 path pl.A data pl.c b0 b1 b2 b3 b4 b5 b6 b7 b8 b9 pl.L ls pl.n v pl.B ms pl.d pl.P l pl.e pw G L0 lo hi w hok hans hw K0 hK0 hlim h.data h.ls h.ms h.parts hh hpn hps
theorem ryputf_calls (pw lo hi K : Nat) (hK : K ≤ 1000000000) (q : Fy × Nat) (hq : q.1.Ok) (hp : PartY q) : RPutFlat pw lo hi K q := by
  intro pl G L w hw hl h1 h2 h3 hh hpn
  obtain ⟨f, np⟩ := q
  obtain ⟨hp1, hp2, hp3⟩ := hp
  simp only at hp1 hp2 hp3 hq h1 h2 h3
  subst hp2
  refine (ryputx_calls f pl [] pw G K hK L lo hi w hq hp1 hw hl ⟨h1, h2, h3, RdPy.nil _ _ _ _⟩ hh hpn (fun q hq => by cases hq)).mono ?_
  rintro e w' ⟨rfl, hpu⟩
  exact ⟨rfl, hpu.cast (by simp [replyB, partsY])⟩
theorem ryputd_calls (f : Fy) (pl : Py) (l : List (Fy × Nat)) (pw : Nat) (G : Option Nat) (L0 : List UInt8) (lo hi : Nat) (w : World) (hok : f.Ok) (hoks : ∀ q ∈ l, q.1.Ok) (hr : RightY f l) (hw : RWt w pw G L0) (hlim : L0.length ≤ 1000000) (h : RdY w lo hi f pl l) (hh : hi ≤ w.heap.size) (hpn : ∀ k, lo ≤ k → k < hi → ¬ WF pw G k) :
    Calls Tryd.prog 41 #[.pointer (some ⟨pw, 0, none⟩), yval f pl l.length] w fun e w' => e = .returned (.tuple #[]) ∧ RPut pw G (L0 ++ replyB f l) w w' :=
  ryputx_calls f pl l pw G 1000000 (by omega) L0 lo hi w hok hr.1 hw hlim h hh hpn (fun q hq => ⟨hr.2 q hq, hoks q hq, ryputf_calls pw lo hi _ (by omega) q (hoks q hq) (hr.2 q hq)⟩)
set_option maxRecDepth 8000 in
set_option maxHeartbeats 3200000 in
theorem ryput_calls (f : Fy) (p : Py) (l : List (Fy × Nat)) (lo hi : Nat) (w : World) (hf : f.Ok) (hok : ∀ q ∈ l, q.1.Ok) (hl : l.length ≤ 140737488355328) (hD : RdY w lo hi f p l) (hh : hi ≤ w.heap.size) :
    Calls Tryd.prog 16 #[yval f p l.length] w fun e w' => ∃ v, e = .returned (.tuple #[v, .int .i64 (putY f l).2]) ∧ w'.ownsRow w.heap.size 5 1 v (putY f l).1.length (bv (putY f l).1) ∧ Fr NoB w w' := by
  have F0 := Lib.hid ((Fr.refl NoB w).alloc (.cells (ycells f p l.length) 43))
  have HB := Lib.hid (heap_alloc_new w (.cells (ycells f p l.length) 43))
  have HA := ransd_calls f p l lo hi _ hf hok hl (hD.fr F0.out hh (fun _ _ _ x => x)) (Nat.le_trans hh F0.out.size)
  have HDD := Lib.hid hD
  have HHH := Lib.hid hh
  have HOK := Lib.hid hf
  have HOKS := Lib.hid hok
  clear hD hh hf hok
  by_cases hR : RightY f l
  · rw [show putY f l = (replyB f l, 0) from if_pos hR]
    rw [decide_eq_true hR] at HA
    have HAA := Lib.hid HA
    have HR := Lib.hid hR
    clear HA hR
    have hlen := replyB_len HR.out HOK.out HOKS.out
    have HLEN := Lib.hid hlen
    clear hlen
    simp only [yval] at *
    go_enter Tryd.func16, Tryd.ntmps16
    go_wp2_with (first | (refine wpList_load_row rfl 43 _ rfl w.heap.size rfl _ _ _ _ HB.out Tryd.underlying43 rfl asize22 ?_) | fail)
    refine HAA.out.mono ?_
    rintro e w1 ⟨rfl, f1⟩
    have F1 := Lib.hid (F0.out.trans f1 fun _ _ x => x)
    have B1 := Lib.hid (f1.at_ HB.out (fun x => x))
    clear f1 HAA
    go_wp2_with (fail)
    refine (rwNew w1).mono ?_
    rintro e w2 ⟨rfl, a2, f2, s2⟩
    have F2 := Lib.hid (F1.out.trans f2 fun _ _ x => x)
    have B2 := Lib.hid (f2.at_ B1.out (fun x => x))
    have A2 := Lib.hid a2
    clear a2 f2 s2 B1
    go_wp2_with (first | (refine wpList_load_row rfl 43 _ rfl w.heap.size rfl _ _ _ _ B2.out Tryd.underlying43 rfl asize22 ?_) | fail)
    refine (ryputd_calls f p l w1.heap.size none [] lo hi w2 HOK.out HOKS.out HR.out A2.out (by simp) (HDD.out.fr F2.out HHH.out (fun _ _ _ x => x)) (Nat.le_trans HHH.out F2.out.size) (fun k h1 h2 h3 => by have := F1.out.size; have := HHH.out; have := wf_none h3; omega)).mono ?_
    rintro e w3 ⟨rfl, G3, a3, f3, g3⟩
    have A3 := Lib.hid a3
    have F3 := Lib.hid (F2.out.trans f3 fun k hk hx => absurd (wf_none hx) (by have := F1.out.size; omega))
    clear a3 f3 g3
    go_wp2_with (fail)
    refine (rwDone w1.heap.size G3 _ _ A3.out (by have := HLEN.out; simp only [List.nil_append]; omega)).mono ?_
    rintro e w8 ⟨v8, rfl, o8, b8⟩
    rw [List.nil_append] at o8
    obtain ⟨A8, c8, rfl, n1, n2⟩ := own_form o8
    go_wp2
    go_ret2
    exact ⟨.slice A8 (replyB f l).length c8, rfl, own_low o8 F3.out.size, F3.out.then (Fr.ofBelow b8)⟩
  · rw [show putY f l = ([], 4) from if_neg hR]
    rw [decide_eq_false hR] at HA
    have HAA := Lib.hid HA
    clear HA hR
    simp only [yval] at *
    go_enter Tryd.func16, Tryd.ntmps16
    go_wp2_with (first | (refine wpList_load_row rfl 43 _ rfl w.heap.size rfl _ _ _ _ HB.out Tryd.underlying43 rfl asize22 ?_) | fail)
    refine HAA.out.mono ?_
    rintro e w1 ⟨rfl, f1⟩
    have F1 := Lib.hid (F0.out.trans f1 fun _ _ x => x)
    clear f1 HAA
    go_wp2
    go_ret2
    exact ⟨.slice none 0 0, rfl, World.ownsRow_nil _ _ _ _, F1.out⟩
end Go.Proofs.YtlckgkpgllhpbaaDoor
