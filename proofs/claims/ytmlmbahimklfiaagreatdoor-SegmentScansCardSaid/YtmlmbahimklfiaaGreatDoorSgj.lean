/-
  Sgj: the document's Put and Scan of deeds in frames.
-/
import Derived.Test.YtmlmbahimklfiaaGreatDoorSge
import Derived.Test.YtmlmbahimklfiaaGreatDoorSgd
import Derived.Test.YtmlmbahimklfiaaGreatDoorDrz
import Derived.Test.YtmlmbahimklfiaaGreatDoorDrv
import Derived.Test.YtmlmbahimklfiaaGreatDoorRfh
namespace Go.Proofs.YtmlmbahimklfiaaGreatDoor
open Go.RowKit

theorem b_rput {w : World} {cs : Array Value} {f : Fd} {l : List (Fd × Nat)} (h : IsD w cs f l) (hl : l.length ≤ 140737488355328) (hf : f.Ok) (hok : ∀ q ∈ l, q.1.Ok ∧ q.2 ≤ 140737488355328) (hM : Max w) :
    Calls Tryz.prog 27 #[.agg cs] w fun e w' => ∃ A c, e = .returned (.tuple #[.slice A (putD f l).1.length c, .int .i64 (putD f l).2]) ∧ (putD f l).1.length ≤ c ∧ c ≤ maxLen ∧ Rd w' w.heap.size w'.heap.size A (putD f l).1 ∧ Fr NoB w w' := by
  obtain ⟨p, lo, hi, rfl, h2, h3⟩ := h
  refine (rdput_calls f p l lo hi w hf hok hl h3 h2 hM).mono ?_
  rintro e w' ⟨v, rfl, ho, hf⟩
  obtain ⟨A, c, rfl, n1, n2⟩ := own_form ho
  exact ⟨A, c, rfl, n1, n2, own_rd ho, hf⟩

set_option maxRecDepth 8000 in
set_option maxHeartbeats 3200000 in
theorem rsput_calls {w : World} {cs : Array Value} {f : Fd} {l : List (Fd × Nat)} (h : IsD w cs f l) (hl : l.length ≤ 140737488355328) (hf : f.Ok) (hok : ∀ q ∈ l, q.1.Ok ∧ q.2 ≤ 140737488355328) (hM : Max w) :
    Calls Tryz.prog 8 #[.agg cs] w fun e w' => ∃ A c, e = .returned (.tuple #[.slice A (putS f l).1.length c, .int .i64 (putS f l).2]) ∧ (putS f l).1.length ≤ c ∧ c ≤ maxLen ∧ Rd w' w.heap.size w'.heap.size A (putS f l).1 ∧ Fr NoB w w' := by
  have H16 := Lib.hid h.size
  have hp := fun W (F : Fr NoB w W) => b_rput (h.fr F) hl hf hok (hM.fr F)
  have HW0 := Lib.hid (heap_alloc_new w (.cells cs 31))
  have F0 := Lib.hid ((Fr.refl NoB w).alloc (.cells cs 31))
  by_cases hR : Right f l
  · rw [show putD f l = (deedB f l, 0) from if_pos hR] at hp
    rw [show putS f l = (frameB (deedB f l), 0) from if_pos hR]
    have HLEN := Lib.hid (deedB_len hR)
    generalize deedB f l = B at *
    have HP := Lib.hid hp
    clear hp h hf hok hM hR
    go_enter Tryz.func8, Tryz.ntmps8
    go_wp2_with (first | (refine wpList_load_row rfl 31 _ rfl w.heap.size rfl _ _ _ _ HW0.out Tryz.underlying31 rfl (size_of H16.out) ?_) | fail)
    refine (HP.out _ F0.out).mono ?_
    rintro e w2 ⟨A, c, rfl, h1, h2, hr, f2⟩
    go_wp2_with (fail)
    refine (rframe_calls A B c _ _ w2 hr (Nat.le_refl _) (by have := HLEN.out; omega)).mono ?_
    intro e w3 h3
    obtain ⟨A3, c3, rfl, h5, h6, ho, f3⟩ := framed_row h3
    go_wp2
    go_ret2
    exact ⟨A3, c3, rfl, h5, h6, (own_rd ho).wide (Nat.le_trans F0.out.size f2.size) (Nat.le_refl _), (F0.out.then f2).then f3⟩
  · rw [show putD f l = ([], 4) from if_neg hR] at hp
    rw [show putS f l = ([], 4) from if_neg hR]
    have HP := Lib.hid hp
    clear hp h hf hok hM hR
    go_enter Tryz.func8, Tryz.ntmps8
    go_wp2_with (first | (refine wpList_load_row rfl 31 _ rfl w.heap.size rfl _ _ _ _ HW0.out Tryz.underlying31 rfl (size_of H16.out) ?_) | fail)
    refine (HP.out _ F0.out).mono ?_
    rintro e w2 ⟨A, c, rfl, h1, h2, hr, f2⟩
    go_wp2
    go_ret2
    exact ⟨none, 0, rfl, Nat.le_refl _, Nat.zero_le _, Rd.nil _ _ _ _, F0.out.then f2⟩

theorem meas1 {s n x b : Nat} (h1 : s = n) (h2 : s + (8 + x) ≤ b) : (n : Int) + (8 + (x : Int)) ≤ (b : Int) := by omega
theorem meas2 {n x b : Nat} (h : (n : Int) + (8 + (x : Int)) ≤ (b : Int)) : b - (intOf (.int .i64 ((n : Int) + (8 + (x : Int))))).toNat < b - (intOf (.int .i64 (n : Int))).toNat := by simp [intOf]; omega
theorem drop_lt {a b m : Nat} (h : a < m + 1) (hb : 8 + b ≤ a) : a - (8 + b) < m := by omega
theorem rdel_wide {w : World} {n0 n1 : Nat} {V U : Value} {x : De × Pl} (h : PartE n0 w V U x) (hn : n1 ≤ n0) : PartE n1 w V U x := by
  obtain ⟨lo, hi, h1, h2⟩ := h.e
  exact ⟨lo, hi, Nat.le_trans hn h1, h2⟩

set_option maxRecDepth 100000 in
set_option maxHeartbeats 12800000 in
theorem rscan_calls (A : Option Addr) (b : List UInt8) (c lo hi : Nat) (w : World) (h : Rd w lo hi A b) (hh : hi ≤ w.heap.size) (hlc : b.length ≤ c) (hcm : c ≤ maxLen) (hb : b.length ≤ 1000000000) (hM : Max w) :
    Calls Tryz.prog 11 #[.slice A b.length c] w (Scanned b w) := by
  obtain ⟨i0, hi0, hz0, hz1, hz2⟩ := info_parts info_deed
  obtain ⟨j0, hj0, hy0, hy1, hy2⟩ := info_parts info_int
  have HR := Lib.hid h
  have HMX := Lib.hid hM
  clear h hM
  go_enter Tryz.func11, Tryz.ntmps11
  go_wp2
  go_loopw [5, 6, 7, 8] (fun V U a z W => ∃ (ds : List De) (LL : List (De × Pl)), a = .int .i64 ((segB ds).length : Int) ∧ z = .int .i64 (lastZ 0 ds) ∧ LL.map (·.1) = ds ∧ Fr NoB w W ∧ DE w.heap.size W V U LL (endZ ds) ∧ (segB ds).length ≤ b.length ∧ Sc b ds (b.drop (segB ds).length)) (fun _ _ a _ _ => b.length - (intOf a).toNat)
  case atStart => exact ⟨[], [], rfl, rfl, rfl, Fr.refl _ _, DE.nil _ _, Nat.zero_le _, b.length + 1, by simp [segB], rfl⟩
  case round =>
    obtain ⟨ds, LL, rfl, rfl, hLL, hf, hD, hle, hsc⟩ := hrel
    have F := Lib.hid hf
    have HD := Lib.hid hD
    have HLL := Lib.hid hLL
    obtain ⟨A1, m1, c1, rfl, hm1⟩ : ∃ A1 m1 c1, u5 = .slice A1 m1 c1 ∧ m1 = LL.length := by obtain ⟨A, c, e, -, -⟩ := own_form4 hD.own; exact ⟨A, _, c, e, rfl⟩
    obtain ⟨A2, m2, c2, rfl, hm2⟩ : ∃ A2 m2 c2, u6 = .slice A2 m2 c2 ∧ m2 = ds.length := by obtain ⟨A, c, e, -, -⟩ := own_form4 hD.ends; exact ⟨A, _, c, e, by simp [endZ, endsOf_len]⟩
    obtain ⟨n, hn⟩ : ∃ n, (segB ds).length = n := ⟨_, rfl⟩
    rw [hn] at hle hsc ⊢
    obtain ⟨q, hqe⟩ : ∃ q, b.drop n = q := ⟨_, rfl⟩
    have hql : q.length = b.length - n := by rw [← hqe, List.length_drop]
    have hq := Rd.drop (n := n) (c := c) (HR.out.fr F.out hh (fun _ _ _ x => x)) hle hlc
    rw [hqe] at hq hsc
    have hun := runframe_calls _ q (c - n) lo hi wr hq (Nat.le_trans hh F.out.size) (by omega) (by omega) (by omega)
    rw [hql] at hun
    have hnb : (n : Int) ≤ (b.length : Int) := by omega
    have hnc : (n : Int) ≤ (c : Int) := by omega
    have hn0 : (0 : Int) ≤ (n : Int) := by omega
    have hdone : ∀ w', Fr NoB wr w' → scan b = ds → Scanned b w (.returned (.tuple #[.slice A1 m1 c1, .slice A2 m2 c2, .int .i64 (n : Int)])) w' := fun w' f hs => by
      refine ⟨A1, c1, A2, c2, LL, ?_, by rw [hs]; exact HLL.out, ?_, F.out.then f⟩
      · rw [hs, hn, ← hm1, ← hm2]
      · rw [hs, ← hm1, ← hm2]; exact HD.out.then f
    have HDO := Lib.hid hdone
    have HSC := Lib.hid hsc
    have HN := Lib.hid hn
    have HQL := Lib.hid hql
    have HQE := Lib.hid hqe
    have hLn : LL.length = ds.length := by rw [← hLL, List.length_map]
    have HLN := Lib.hid hLn
    clear hLL hf hD hm1 hm2 hn hdone hq hsc hql hqe hLn
    by_cases hcn : c = n
    · have hu : unframe q = none := by unfold unframe; rw [if_pos (by have := HQL.out; omega)]
      have hs : scan b = ds := by obtain ⟨m, -, hs⟩ := HSC.out; rw [hs, scanF_none hu, List.append_nil]
      have HS := Lib.hid hs
      unfold Unframed at hun
      rw [hu, if_pos hcn] at hun
      subst hcn
      rw [Nat.sub_self, Nat.sub_eq_zero_of_le hlc] at hun
      have HUN := Lib.hid hun
      clear hs hu hun
      go_wp2_with (fail)
      refine HUN.out.mono ?_
      rintro e w1 ⟨rfl, f1⟩
      go_wp2
      go_ret3
      exact HDO.out _ f1 HS.out
    rw [if_neg hcn] at hun
    cases hu : unframe q with
    | none =>
      have hs : scan b = ds := by obtain ⟨m, -, hs⟩ := HSC.out; rw [hs, scanF_none hu, List.append_nil]
      have HS := Lib.hid hs
      unfold Unframed at hun
      rw [hu] at hun
      clear hs hu
      go_wp2_with (fail)
      refine hun.mono ?_
      rintro e w1 ⟨rfl, f1⟩
      go_wp2
      go_ret3
      exact HDO.out _ f1 HS.out
    | some x =>
      have hxl := unframe_len hu
      have hun2 : Calls Tryz.prog 31 #[.slice (A.map (·.add n)) (b.length - n) (c - n)] wr fun e W' => ∃ Ax cx, e = .returned (.tuple #[.slice Ax x.length cx, .int .i64 (8 + (x.length : Int)), .int .i64 0]) ∧ Rd W' wr.heap.size W'.heap.size Ax x ∧ Fr NoB wr W' := hun.mono fun e W' h => by
        unfold Unframed at h
        rw [hu] at h
        obtain ⟨⟨v, rfl, ho⟩, hf⟩ := h
        obtain ⟨Ax, cx, rfl, -, -⟩ := own_form ho
        exact ⟨Ax, cx, by push_cast; rfl, own_rd ho, hf⟩
      have hx30 : x.length ≤ 1000000000 := by have := HQL.out; omega
      have HU := Lib.hid hu
      clear hun hu hxl
      go_wp2_with (fail)
      refine hun2.mono ?_
      rintro e w1 ⟨Ax, cx, rfl, hrx, f1⟩
      have hget := rdget_low Ax x cx _ _ w1 hrx (Nat.le_refl _) (by omega) (HMX.out.fr (F.out.then f1))
      clear hun2 hrx
      go_wp2_with (fail)
      refine hget.mono ?_
      rintro e w2 ⟨cs, f, l, zz, rfl, hg, ⟨p, lo2, hi2, hlo2, rfl, hhi2, hrd⟩, f2⟩
      have FA := Lib.hid ((Fr.refl NoB w2).alloc (.cells (dcells f p l.length) 31))
      have F12 := Lib.hid (f1.then f2)
      have HB := Lib.hid (heap_alloc_new w2 (.cells (dcells f p l.length) 31))
      have HPE : Hid (PartE w.heap.size w2 (.slice A1 m1 c1) (.slice A2 m2 c2) ((f, l), p)) := Lib.hid ⟨⟨lo2, hi2, by have := F.out.size; have := f1.size; omega, hhi2, fun g hg hx => by
        (have hs1 := f1.size)
        (rcases hg with hg | hg)
        · have := HD.out.own.lt g hg; omega
        · have := HD.out.ends.lt g hg; omega, hrd⟩⟩
      have HSZ := Lib.hid f2.size
      clear f1 f2 hrd hlo2 hhi2 hget
      simp only [dcells] at FA HB ⊢
      rcases hg with ⟨hg, rfl⟩ | ⟨hg, hf0, -, rfl⟩
      · by_cases hz : f.z ≤ lastZ 0 ds
        · have hs : scan b = ds := by obtain ⟨m, -, hs⟩ := HSC.out; rw [hs, scanF_le HU.out hg hz, List.append_nil]
          have HS := Lib.hid hs
          have hzd : decide (f.z ≤ lastZ 0 ds) = true := decide_eq_true hz
          clear hs hg HPE
          go_wp2
          go_ret3
          exact HDO.out _ (F12.out.then FA.out) HS.out
        · obtain ⟨hb1, hb2, hb3⟩ := HSC.out.bound HU.out hg hz
          have HG := Lib.hid hg
          have HZ := Lib.hid hz
          have hzd : decide (f.z ≤ lastZ 0 ds) = false := decide_eq_false hz
          have hnn := HN.out
          have hsum : wrap64 ((n : Int) + (8 + (x.length : Int))) = (n : Int) + (8 + (x.length : Int)) := by unfold wrap64; omega
          have hll : LL.length ≤ 1000000000 := by have := HLN.out; omega
          have hel : (endZ ds).length ≤ 1000000000 := by simp [endZ, endsOf_len]; omega
          obtain ⟨BX, hBX⟩ : ∃ BX, w2.heap.size = BX := ⟨_, rfl⟩
          have DA := Lib.hid (HD.out.then (F12.out.then FA.out))
          have HPA := Lib.hid (HPE.out.keep FA.out (fun _ x => x.elim) (fun _ hg => .inl hg))
          have FW := Lib.hid (F.out.then (F12.out.then FA.out))
          clear hb1 hb2 hb3 hz hg HPE
          go_upto_if 39 with fail
          obtain ⟨wA, hwA⟩ : ∃ wA, w2.alloc (.cells #[.int .i64 f.z, .int .u8 f.k, .int .i64 f.s, .int .i64 f.t, .int .i64 f.x, .int .i64 f.m, .string ⟨f.path.toArray⟩, .slice p.A f.data.length p.c, .int .i64 f.ow, .int .i64 f.ve, .int .i64 f.cv, .int .i64 f.ti, .int .i64 f.er, .int .i64 f.c.1, .slice p.B f.c.2.length p.d, .slice p.P l.length p.e] 31) = wA := ⟨_, rfl⟩
          rw [hwA] at DA HPA FW HB ⊢
          rw [hBX] at HB
          clear hwA hBX FA
          have hc0 := (cells_of HB.out 0).1
          simp only [List.getElem?_toArray, List.getElem?_cons_zero] at hc0
          have hnb3 := World.news_of_block (heap_alloc_new wA (.cells #[.int .i64 f.z, .int .u8 f.k, .int .i64 f.s, .int .i64 f.t, .int .i64 f.x, .int .i64 f.m, .string ⟨f.path.toArray⟩, .slice p.A f.data.length p.c, .int .i64 f.ow, .int .i64 f.ve, .int .i64 f.cv, .int .i64 f.ti, .int .i64 f.er, .int .i64 f.c.1, .slice p.B f.c.2.length p.d, .slice p.P l.length p.e] 31))
          have HNB := Lib.hid hnb3
          have D3 := Lib.hid (DA.out.then ((Fr.refl NoB wA).alloc (.cells #[.int .i64 f.z, .int .u8 f.k, .int .i64 f.s, .int .i64 f.t, .int .i64 f.x, .int .i64 f.m, .string ⟨f.path.toArray⟩, .slice p.A f.data.length p.c, .int .i64 f.ow, .int .i64 f.ve, .int .i64 f.cv, .int .i64 f.ti, .int .i64 f.er, .int .i64 f.c.1, .slice p.B f.c.2.length p.d, .slice p.P l.length p.e] 31)))
          have HP3 := Lib.hid (HPA.out.keep ((Fr.refl NoB wA).alloc (.cells #[.int .i64 f.z, .int .u8 f.k, .int .i64 f.s, .int .i64 f.t, .int .i64 f.x, .int .i64 f.m, .string ⟨f.path.toArray⟩, .slice p.A f.data.length p.c, .int .i64 f.ow, .int .i64 f.ve, .int .i64 f.cv, .int .i64 f.ti, .int .i64 f.er, .int .i64 f.c.1, .slice p.B f.c.2.length p.d, .slice p.P l.length p.e] 31)) (fun _ x => x.elim) (fun _ hg => .inl hg))
          have F13 := Lib.hid (FW.out.then ((Fr.refl NoB wA).alloc (.cells #[.int .i64 f.z, .int .u8 f.k, .int .i64 f.s, .int .i64 f.t, .int .i64 f.x, .int .i64 f.m, .string ⟨f.path.toArray⟩, .slice p.A f.data.length p.c, .int .i64 f.ow, .int .i64 f.ve, .int .i64 f.cv, .int .i64 f.ti, .int .i64 f.er, .int .i64 f.c.1, .slice p.B f.c.2.length p.d, .slice p.P l.length p.e] 31)))
          have hdl : (dsv [((f, l), p)]).length = 1 * 16 := by rw [dsv_one]; simp [dcells]
          have hds : 0 < 1 → ∃ ad, some (⟨wA.heap.size, 0, none⟩ : Addr) = some ad ∧ ∀ j u, (dsv [((f, l), p)])[j]? = some u → (wA.alloc (.cells #[.int .i64 f.z, .int .u8 f.k, .int .i64 f.s, .int .i64 f.t, .int .i64 f.x, .int .i64 f.m, .string ⟨f.path.toArray⟩, .slice p.A f.data.length p.c, .int .i64 f.ow, .int .i64 f.ve, .int .i64 f.cv, .int .i64 f.ti, .int .i64 f.er, .int .i64 f.c.1, .slice p.B f.c.2.length p.d, .slice p.P l.length p.e] 31)).cell? (ad.add j) = some u := fun _ => ⟨_, rfl, by rw [dsv_one]; exact HNB.out⟩
          clear hnb3
          go_wp2_with (first | (refine wpList_load_row rfl 31 (.tmp 12) rfl BX rfl _ _ _ _ HB.out Tryz.underlying31 rfl size16 ?_) | (at_builtin; refine wpList_append_src _ rfl _ _ 29 rfl w.heap.size 31 i0 (.agg (dcells (bareF 0) pl0 0)) 16 184 Tryz.underlying29 hi0 hz0 hz1 hz2 rfl (by decide) (.slice A1 m1 c1) LL.length (dsv LL) rfl D3.out.own _ 1 1 (dsv [((f, l), p)]) rfl hdl hds (dsv_oneCell _) (by unfold maxLen; omega) (by omega) F13.out.size ?_) | fail)
          intro V' w4 hA
          have D4 := Lib.hid (D3.out.pushV HP3.out hA)
          have F14 := Lib.hid (F13.out.upE hA.fr (fun g hg => (D3.out.own.lt g hg).1))
          clear hA D3 HNB hds hdl
          have D5 := Lib.hid (D4.out.then ((Fr.refl NoB w4).alloc (.cells #[.int .i64 ((n : Int) + (8 + (x.length : Int)))] 3)))
          have hnu := World.news_of_block (heap_alloc_new w4 (.cells #[.int .i64 ((n : Int) + (8 + (x.length : Int)))] 3))
          have HNU := Lib.hid hnu
          have F15 := Lib.hid (F14.out.then ((Fr.refl NoB w4).alloc (.cells #[.int .i64 ((n : Int) + (8 + (x.length : Int)))] 3)))
          clear hnu
          go_wp2_with (first | (at_builtin; refine wpList_append_src _ rfl _ _ 37 rfl w.heap.size 3 j0 (.int .i64 0) 1 8 Tryz.underlying37 hj0 hy0 hy1 hy2 rfl (by decide) (.slice A2 m2 c2) (endZ ds).length (nvs (endZ ds)) rfl D5.out.ends _ 1 1 (nvs [(n : Int) + (8 + (x.length : Int))]) rfl rfl (fun _ => ⟨_, rfl, HNU.out⟩) (by simp [nvs, Value.oneCell']) (by unfold maxLen; omega) (by omega) F15.out.size ?_) | fail)
          intro U' w5 hA5
          have D6 := Lib.hid (D5.out.pushU hA5)
          have F16 := Lib.hid (F15.out.upE hA5.fr (fun g hg => (D5.out.ends.lt g hg).1))
          obtain ⟨hb1, hb2, hb3⟩ := HSC.out.bound HU.out HG.out (Int.not_le.2 HZ.out)
          have hat : (n : Int) + (8 + (x.length : Int)) = ((segB (ds ++ [(f, l)])).length : Int) := by rw [hb3, HN.out]; push_cast; rfl
          have hfin : ∃ (ds2 : List De) (LL2 : List (De × Pl)), Value.int .i64 ((n : Int) + (8 + (x.length : Int))) = .int .i64 ((segB ds2).length : Int) ∧ Value.int .i64 f.z = .int .i64 (lastZ 0 ds2) ∧ LL2.map (·.1) = ds2 ∧ Fr NoB w w5 ∧ DE w.heap.size w5 V' U' LL2 (endZ ds2) ∧ (segB ds2).length ≤ b.length ∧ Sc b ds2 (b.drop (segB ds2).length) := by
            refine ⟨ds ++ [(f, l)], LL ++ [((f, l), p)], by rw [hat], by rw [lastZ_snoc], by rw [List.map_append, HLL.out]; rfl, F16.out, ?_, by rw [hb3]; omega, ?_⟩
            · have e2 : endZ (ds ++ [(f, l)]) = endZ ds ++ [(n : Int) + (8 + (x.length : Int))] := by rw [hat]; simp [endZ, endsOf_snoc]
              rw [e2]
              exact D6.out
            · obtain ⟨m, hm, hs⟩ := HSC.out
              obtain ⟨m3, rfl⟩ : ∃ m3, m = m3 + 1 := ⟨m - 1, by omega⟩
              have hxl := unframe_len HU.out
              have hdq : b.drop (segB (ds ++ [(f, l)])).length = q.drop (8 + x.length) := by rw [hb3, HN.out, ← HQE.out, List.drop_drop]
              refine ⟨m3, by rw [hdq, List.length_drop]; exact drop_lt hm hxl, ?_⟩
              rw [hs, scanF_one HU.out HG.out (Int.not_le.2 HZ.out), lastZ_snoc, List.append_assoc, List.singleton_append, hdq]
          have HFIN := Lib.hid hfin
          have HMS := Lib.hid (meas1 HN.out hb1)
          clear hfin hat hb1 hb2 hb3 hA5
          go_wp2
          go_roundw
          case rel => exact HFIN.out
          case measure => exact meas2 HMS.out
      · have hs : scan b = ds := by obtain ⟨m, -, hs⟩ := HSC.out; rw [hs, scanF_nog HU.out hg, List.append_nil]
        have HS := Lib.hid hs
        clear hs hg HPE hf0
        go_wp2
        go_ret3
        exact HDO.out _ (F12.out.then FA.out) HS.out
end Go.Proofs.YtmlmbahimklfiaaGreatDoor
