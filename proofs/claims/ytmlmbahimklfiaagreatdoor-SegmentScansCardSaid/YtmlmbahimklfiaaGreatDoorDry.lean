/-
  Dry: the document's rows of parts that are read.
-/
import Derived.Test.YtmlmbahimklfiaaGreatDoorDrx
import Derived.Test.YtmlmbahimklfiaaGreatDoorDev
namespace Go.Proofs.YtmlmbahimklfiaaGreatDoor
open Go.RowKit

/-- A part that the document read: where its lists lie, off the row V. -/
structure PartX (w0 w : World) (V : Value) (x : Fd × Pl) : Prop where
  e : ∃ lo hi, w0.heap.size ≤ lo ∧ hi ≤ w.heap.size ∧ (∀ g, V.ownBlock = some g → ¬ (lo ≤ g ∧ g < hi)) ∧ Rd w lo hi x.2.A x.1.data ∧ RdM w lo hi x.2.B x.1.c.2
theorem PartX.keep {w0 w w1 : World} {V V1 : Value} {x : Fd × Pl} {M : Nat → Prop} (h : PartX w0 w V x) (f : Fr M w w1) (hm : ∀ k, M k → k < w0.heap.size ∨ w.heap.size ≤ k ∨ V.ownBlock = some k) (hv : ∀ g, V1.ownBlock = some g → V.ownBlock = some g ∨ w.heap.size ≤ g) : PartX w0 w1 V1 x := by
  obtain ⟨lo, hi, h1, h2, h3, h4, h5⟩ := h.e
  have hfar : ∀ k, lo ≤ k → k < hi → ¬ M k := fun k a b c => by
    rcases hm k c with h | h | h
    · omega
    · omega
    · exact h3 k h ⟨a, b⟩
  refine ⟨lo, hi, h1, Nat.le_trans h2 f.size, fun g hg => ?_, h4.fr f h2 hfar, h5.fr f h2 hfar⟩
  rcases hv g hg with h | h
  · exact h3 g h
  · omega
/-- Parts under way. -/
structure PX (w0 w : World) (lo pr : Nat) (st : RSt) (V : Value) (L : List (Fd × Pl)) : Prop where
  a : RRd w lo pr st
  fr : Fr (OneB pr) w0 w
  lo1 : lo ≤ pr
  lo2 : pr < w0.heap.size
  own : w.ownsRow w0.heap.size 31 16 V L.length (pv L)
  parts : ∀ x ∈ L, PartX w0 w V x
theorem PX.read {w0 w w1 : World} {lo pr : Nat} {st st1 : RSt} {V : Value} {L : List (Fd × Pl)} (h : PX w0 w lo pr st V L) (a : RRd w1 lo pr st1) (fr : Fr (OneB pr) w w1) : PX w0 w1 lo pr st1 V L := by
  have h2 := h.lo2
  exact ⟨a, h.fr.trans fr (fun _ _ hx => hx), h.lo1, h2, own_by h.own fr (fun g hg => by have := (h.own.lt g hg).1; simp only [OneB]; omega), fun x hx => (h.parts x hx).keep fr (fun k hk => by simp only [OneB] at hk; omega) (fun g hg => .inl hg)⟩
theorem PX.keep {w0 w w1 : World} {lo pr : Nat} {st : RSt} {V : Value} {L : List (Fd × Pl)} (h : PX w0 w lo pr st V L) (fr : Fr NoB w w1) : PX w0 w1 lo pr st V L :=
  ⟨h.a.fr fr (fun _ _ _ x => x) h.lo1, h.fr.trans fr (fun _ _ x => x.elim), h.lo1, h.lo2, own_by h.own fr (fun _ _ x => x), fun x hx => (h.parts x hx).keep fr (fun _ hk => hk.elim) (fun _g hg => .inl hg)⟩
/-- One part more. -/
theorem PX.push {w0 w w' : World} {lo pr : Nat} {st : RSt} {V V' : Value} {L : List (Fd × Pl)} {x : Fd × Pl} (h : PX w0 w lo pr st V L) (hx : PartX w0 w V x) (hA : App w0.heap.size 31 16 V (L.length + 1) (pv L ++ pv [x]) w V' w') : PX w0 w' lo pr st V' (L ++ [x]) := by
  have h1 := h.lo1
  have h2 := h.lo2
  have hV0 : ∀ k, V.ownBlock = some k → w0.heap.size ≤ k := fun k hk => (h.own.lt k hk).1
  have hV : ∀ g, V'.ownBlock = some g → V.ownBlock = some g ∨ w.heap.size ≤ g := fun g hg => by
    rcases hA.at_ with h | h
    · exact .inl (h ▸ hg)
    · rw [h] at hg; cases hg; exact .inr (Nat.le_refl _)
  refine ⟨h.a.fr hA.fr (fun k _ hk hx => ?_) h1, h.fr.trans hA.fr (fun k hk hx => ?_), h1, h2, by rw [List.length_append, pv_append]; exact hA.own, fun y hy => ?_⟩
  · have := hV0 k hx; omega
  · have := hV0 k hx; omega
  · rcases List.mem_append.1 hy with hy | hy
    · exact (h.parts y hy).keep hA.fr (fun k hk => .inr (.inr hk)) hV
    · simp only [List.mem_singleton] at hy
      subst hy
      exact hx.keep hA.fr (fun k hk => .inr (.inr hk)) hV
theorem PX.rd {w0 w : World} {lo pr c : Nat} {st : RSt} {A : Option Addr} {L : List (Fd × Pl)} (h : PX w0 w lo pr st (.slice A L.length c) L) : RdP w w0.heap.size w.heap.size A (L.map fun x => (x.1, 0)) := fun hl => by
  rw [List.length_map] at hl
  obtain ⟨g, cap, hv, hb, hlt⟩ := h.own.form hl
  have hP : A = some ⟨g, 0, none⟩ := by injection hv
  refine ⟨g, 0, hP, hb, hlt, fun i q hq => ?_⟩
  rw [List.getElem?_map] at hq
  cases hx : L[i]? with
  | none => rw [hx] at hq; cases hq
  | some x =>
    rw [hx] at hq
    simp only [Option.map_some, Option.some.injEq] at hq
    subst hq
    obtain ⟨lo, hi, h1, h2, h3, h4, h5⟩ := (h.parts x (List.mem_of_getElem? hx)).e
    refine ⟨x.2, fun j v hv => ?_, h4.wide h1 h2, h5.wide h1 h2⟩
    have := h.own.cells (g := g) (by rw [hP]; rfl) (i * 16 + j) v (pv_get hx j v hv)
    rw [Lib.addr_add, Nat.zero_add] at this
    rw [Nat.zero_add]
    exact this
theorem rGood_none : rGood none = false := rfl
theorem rByte_lim {st : RSt} (h : RLim st) : RLim (rByte st).2 := by
  rcases st with _ | l
  · trivial
  · rcases l with _ | ⟨c, l⟩
    · trivial
    · show RLim (some l)
      simp only [RLim, List.length_cons] at h ⊢
      omega
theorem rdPart_lim {st : RSt} (h : RLim st) : RLim (rdPart st).2 := by
  unfold rdPart
  exact rdFd_lim (rByte_lim h)

theorem meas_step {n j : Nat} (h : j < n) : n - (intOf (.int .i64 ((j : Int) + 1))).toNat < n - (intOf (.int .i64 (j : Int))).toNat := by simp [intOf]; omega
theorem part_step (lo pr : Nat) (h1 : lo ≤ pr) (sj : RSt) (hg : rGood sj = true) (hl : RLim sj) : ∃ (xb : UInt8) (sb : RSt) (F : Fd) (sn : RSt), (∀ W, RRd W lo pr sj → Calls Tryz.prog 71 #[.pointer (some ⟨pr, 0, none⟩)] W (RRres lo pr (.int .u8 xb.toNat) sb W)) ∧ (∀ W, RRd W lo pr sb → Calls Tryz.prog 73 #[.pointer (some ⟨pr, 0, none⟩), .agg #[.int .i64 0, .int .u8 xb.toNat, .int .i64 0, .int .i64 0, .int .i64 0, .int .i64 0, .string ⟨#[]⟩, .slice none 0 0, .int .i64 0, .int .i64 0, .int .i64 0, .int .i64 0, .int .i64 0, .int .i64 0, .slice none 0 0, .slice none 0 0], .bool false] W fun e w' => RdR W w' lo pr sn F e) ∧ (∀ m, rdPsR (m + 1) sj = ((F, 0) :: (rdPsR m sn).1, (rdPsR m sn).2)) ∧ RLim sn :=
  ⟨(rByte sj).1, (rByte sj).2, (rdPart sj).1, (rdPart sj).2, fun W r => rrByte lo pr sj W r, fun W r => rrFlat (bareF (rByte sj).1.toNat) false lo pr (rByte sj).2 W (bareF_ok _) rfl r h1 (rByte_lim hl) (fun _ => rfl), fun m => by rw [rdPsR, if_pos hg], rdPart_lim hl⟩

set_option maxHeartbeats 3200000 in
set_option maxRecDepth 8000 in
theorem rread2_calls (mo : Nat) (lo pr : Nat) (st : RSt) (w : World) (ha : RRd w lo pr st) (h1 : lo ≤ pr) (hlim : RLim st) (hmo : mo ≤ 1000) :
    Calls Tryz.prog 132 #[.pointer (some ⟨pr, 0, none⟩), .int .i64 mo] w fun e w' => ∃ V L, e = .returned V ∧ PX w w' lo pr (rdPsR (rCount st mo).1.toNat (rCount st mo).2).2 V L ∧ (rdPsR (rCount st mo).1.toNat (rCount st mo).2).1 = L.map (fun x => (x.1, 0)) := by
  have hrc := rCount_range st mo (by omega)
  have hlim1 : RLim (rCount st mo).2 := rCount_lim hlim
  have hcc := fun W (r : RRd W lo pr st) => rrCount lo pr st mo W r
  obtain ⟨nn, s1, g0⟩ : ∃ n t, rCount st mo = (n, t) := ⟨_, _, rfl⟩
  rw [g0] at hcc hrc hlim1 ⊢
  simp only at hrc hlim1 ⊢
  obtain ⟨n, rfl⟩ : ∃ n : Nat, nn = (n : Int) := ⟨nn.toNat, by omega⟩
  have hn500 : n ≤ 1000 := by omega
  rw [Int.toNat_natCast]
  obtain ⟨R, hR⟩ : ∃ R, rdPsR n s1 = R := ⟨_, rfl⟩
  rw [hR]
  have HR0 := Lib.hid hR
  have HCC := Lib.hid hcc
  have HA := Lib.hid ha
  have HL1 := Lib.hid hlim1
  have HPW := Lib.hid ha.lt
  obtain ⟨i0, hi0, hz0, hz1, hz2⟩ := info_parts info_deed
  clear ha hlim hcc g0 hrc hlim1 hR
  go_enter Tryz.func132, Tryz.ntmps132
  go_wp2_with (fail)
  refine (HCC.out _ HA.out).mono ?_
  rintro e w1 ⟨rfl, a1, f1, -⟩
  have T1 : Hid (PX w w1 lo pr s1 (.slice none 0 0) []) := ⟨a1, f1, h1, HPW.out, World.ownsRow_nil _ _ _ _, fun x hx => absurd hx (by simp)⟩
  clear a1 f1 HCC HA
  go_wp2
  go_loopw [6, 7] (fun V i W => ∃ (j : Nat) (sj : RSt) (A : Option Addr) (c : Nat) (L : List (Fd × Pl)), j ≤ n ∧ i = .int .i64 (j : Int) ∧ V = .slice A L.length c ∧ L.length = j ∧ R = (L.map (fun x => (x.1, 0)) ++ (rdPsR (n - j) sj).1, (rdPsR (n - j) sj).2) ∧ PX w W lo pr sj (.slice A L.length c) L ∧ RLim sj) (fun _ i _ => n - (intOf i).toNat)
  case atStart => exact ⟨0, s1, none, 0, [], Nat.zero_le _, rfl, rfl, rfl, by rw [← HR0.out]; rfl, T1.out, HL1.out⟩
  case round =>
    obtain ⟨j, sj, A, c, L, hj, rfl, rfl, hLj, hRj, ht, hlj⟩ := hrel
    have T := Lib.hid ht
    have HRJ := Lib.hid hRj
    have HLJ := Lib.hid hlj
    have HLj := Lib.hid hLj
    clear ht hRj hlj T1 HR0 HL1 hLj
    have hgd := fun W (r : RRd W lo pr sj) => rrGood lo pr sj W r
    by_cases hlt : j < n
    · have hji : (j : Int) < (n : Int) := by omega
      by_cases hg : rGood sj = true
      · rw [hg] at hgd
        have HGD := Lib.hid hgd
        clear hgd
        obtain ⟨xb, sb, F, sn, hb, hrd, hstep, hpl⟩ := part_step lo pr h1 sj hg HLJ.out
        have HST := Lib.hid (hstep (n - (j + 1)))
        have HBY := Lib.hid hb
        have HRD := Lib.hid hrd
        have HPL := Lib.hid hpl
        clear hstep hb hrd hpl hg HLJ
        go_wp2_with (first | ((with_reducible refine (HGD.out _ T.out.a).mono ?_); rintro e w2 ⟨rfl, rfl⟩) | fail)
        refine (HBY.out _ T.out.a).mono ?_
        rintro e w3 ⟨rfl, a3, f3, -⟩
        have T3 := Lib.hid (T.out.read a3 f3)
        clear a3 f3 T HBY HGD
        have FA := Lib.hid ((Fr.refl NoB w3).alloc (.cells #[.int .i64 0, .int .u8 xb.toNat, .int .i64 0, .int .i64 0, .int .i64 0, .int .i64 0, .string ⟨#[]⟩, .slice none 0 0, .int .i64 0, .int .i64 0, .int .i64 0, .int .i64 0, .int .i64 0, .int .i64 0, .slice none 0 0, .slice none 0 0] 31))
        have T4 := Lib.hid (T3.out.keep FA.out)
        clear T3
        go_wp2_with (fail)
        refine (HRD.out _ T4.out.a).mono ?_
        rintro e w5 ⟨pl, rfl, a5, f5, rd5, rm5, hp5, hpe5⟩
        have T5 := Lib.hid (T4.out.read a5 f5)
        have HPX : Hid (PartX w w5 (.slice A L.length c) (F, pl)) := by
          refine ⟨_, _, Nat.le_trans T4.out.fr.size (Nat.le_refl _), Nat.le_refl _, fun g hg hx => ?_, rd5, rm5⟩
          have := (T4.out.own.lt g hg).2
          omega
        clear a5 f5 rd5 rm5 T4 HRD FA
        obtain ⟨z, k, s, t, x, m, path, data, ow, ve, cv, ti, er, cver, ms⟩ := F
        obtain ⟨PA, pc, PB, pd, PP, pe⟩ := pl
        simp only at hp5 hpe5
        subst hp5
        subst hpe5
        simp only [dval, dcells]
        have hLn : L.length ≤ 1000 := by have := HLj.out; omega
        have FB := (Fr.refl NoB w5).alloc (.cells #[.int .i64 z, .int .u8 k, .int .i64 s, .int .i64 t, .int .i64 x, .int .i64 m, .string ⟨path.toArray⟩, .slice PA data.length pc, .int .i64 ow, .int .i64 ve, .int .i64 cv, .int .i64 ti, .int .i64 er, .int .i64 cver, .slice PB ms.length pd, .slice none 0 0] 31)
        have T6 := Lib.hid (T5.out.keep FB)
        have HPX6 := Lib.hid (HPX.out.keep FB (fun _ hk => hk.elim) (fun g hg => .inl hg))
        have HSRC := Lib.hid (src_block w5 #[.int .i64 z, .int .u8 k, .int .i64 s, .int .i64 t, .int .i64 x, .int .i64 m, .string ⟨path.toArray⟩, .slice PA data.length pc, .int .i64 ow, .int .i64 ve, .int .i64 cv, .int .i64 ti, .int .i64 er, .int .i64 cver, .slice PB ms.length pd, .slice none 0 0] 31 (pv [(⟨z, k, s, t, x, m, path, data, ow, ve, cv, ti, er, (cver, ms)⟩, ⟨PA, pc, PB, pd, none, 0⟩)]) (by simp [pv, dcells]))
        have HSZ := Lib.hid (Nat.le_trans T5.out.fr.size FB.size)
        clear T5 HPX FB
        go_wp2_with (at_builtin; go_loud (refine wpList_append_src _ rfl _ _ 29 rfl w.heap.size 31 i0 _ 16 184 Tryz.underlying29 hi0 hz0 hz1 hz2 rfl (by decide) (.slice A L.length c) L.length (pv L) rfl T6.out.own _ 1 _ (pv [(⟨z, k, s, t, x, m, path, data, ow, ve, cv, ti, er, (cver, ms)⟩, ⟨PA, pc, PB, pd, none, 0⟩)]) rfl rfl (fun _ => HSRC.out) (pv_oneCell _) (by unfold maxLen; omega) (by omega) HSZ.out ?_))
        intro v' wA hA
        obtain ⟨A2, c2, rfl, _, _⟩ := own_form4 hA.own
        have T7 := Lib.hid (T6.out.push HPX6.out hA)
        clear hA T6 HPX6 HSRC
        go_wp2
        go_roundw
        case rel => exact ⟨j + 1, sn, A2, c2, L ++ [(⟨z, k, s, t, x, m, path, data, ow, ve, cv, ti, er, (cver, ms)⟩, ⟨PA, pc, PB, pd, none, 0⟩)], by omega, by go_num, by rw [List.length_append]; rfl, by rw [List.length_append, HLj.out]; rfl, by have h := HST.out; rw [HRJ.out, show n - j = n - (j + 1) + 1 by omega, h]; simp only [List.map_append, List.map_cons, List.map_nil, List.append_assoc, List.cons_append, List.nil_append], by rw [List.length_append]; exact T7.out, HPL.out⟩
        case measure => exact meas_step hlt
      · rw [Bool.eq_false_iff.2 hg] at hgd
        have hend : rdPsR (n - j) sj = ([], sj) := by
          rw [show n - j = (n - (j + 1)) + 1 by omega, rdPsR, if_neg hg]
        have HE := Lib.hid hend
        clear hend hg
        go_wp2_with (first | ((with_reducible refine (hgd _ T.out.a).mono ?_); rintro e w2 ⟨rfl, rfl⟩) | fail)
        go_ret
        exact ⟨_, L, rfl, by rw [HRJ.out, HE.out]; exact T.out, by rw [HRJ.out, HE.out]; simp⟩
    · obtain rfl : j = n := by omega
      have hend : rdPsR (j - j) sj = ([], sj) := by rw [Nat.sub_self]; rfl
      have HE := Lib.hid hend
      clear hend hgd
      go_wp2
      go_ret
      exact ⟨_, L, rfl, by rw [HRJ.out, HE.out]; exact T.out, by rw [HRJ.out, HE.out]; simp⟩
end Go.Proofs.YtmlmbahimklfiaaGreatDoor
