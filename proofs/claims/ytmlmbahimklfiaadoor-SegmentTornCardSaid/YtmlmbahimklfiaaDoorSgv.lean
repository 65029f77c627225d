/-
  Sgv: the chapter's example.
-/
import Derived.Test.YtmlmbahimklfiaaDoorSgu
namespace Go.Proofs.YtmlmbahimklfiaaDoor
open Go.RowKit

theorem scan_stop {ds : List De} (hr : ∀ d ∈ ds, RightD d) (hi : Rise 0 ds) {r : List UInt8} (h : ∀ n, scanF n (lastZ 0 ds) r = []) : scan (segB ds ++ r) = ds := by
  have hc := segB_count ds
  unfold scan
  rw [show (segB ds ++ r).length + 1 = ds.length + ((segB ds ++ r).length + 1 - ds.length) by rw [List.length_append]; omega, scanF_front ds _ 0 r hr hi, h, List.append_nil]
theorem scan_segB {ds : List De} (hr : ∀ d ∈ ds, RightD d) (hi : Rise 0 ds) : scan (segB ds) = ds := by
  have := scan_stop hr hi (r := []) (fun n => scanF_none (by unfold unframe; rw [if_pos (by simp)]))
  rwa [List.append_nil] at this
/-- Behind deeds stands one that does not rise. -/
theorem scan_fall {ds : List De} (hr : ∀ d ∈ ds, RightD d) (hi : Rise 0 ds) (d : De) (hd : RightD d) (hz : d.1.z ≤ lastZ 0 ds) (es : List De) : scan (segB (ds ++ d :: es)) = ds := by
  rw [segB_append, segB_cons]
  exact scan_stop hr hi (fun n => scanF_le (unframe_front d hd _) hd.get hz)
theorem cut_scanF : ∀ (ds : List De) (m : Nat) (last : Int) (n : Nat), (∀ d ∈ ds, RightD d) → Rise last ds → kN ds n < m → scanF m last ((segB ds).take n) = ds.take (kN ds n)
  | [], m, last, n, _, _, _ => by
    simp only [segB, List.flatMap_nil, List.take_nil]
    exact scanF_none (by unfold unframe; rw [if_pos (by simp)])
  | d :: ds, 0, last, n, _, _, h => absurd h (by omega)
  | d :: ds, m + 1, last, n, hr, hi, hm => by
    have hd := hr d (by simp)
    have hl := hd.len
    have hp := segN_pos d
    rw [segB_cons]
    by_cases h : segN d ≤ n
    · have e : (frameB (deB d) ++ segB ds).take n = frameB (deB d) ++ (segB ds).take (n - segN d) := by
        rw [List.take_append, List.take_of_length_le (by exact h)]
        rfl
      have hk : kN (d :: ds) n = kN ds (n - segN d) + 1 := by
        show (if segN d ≤ n then kN ds (n - segN d) + 1 else 0) = _
        rw [if_pos h]
      rw [e, hk, scanF_one (unframe_front d hd _) hd.get (by have := hi.1; omega), List.drop_append_of_le_length (by rw [frameB_len]; omega), List.drop_of_length_le (by rw [frameB_len]; omega), List.nil_append, List.take_succ_cons]
      rw [cut_scanF ds m d.1.z (n - segN d) (fun x hx => hr x (by simp [hx])) hi.2 (by omega)]
    · have e : (frameB (deB d) ++ segB ds).take n = (frameB (deB d)).take n := List.take_append_of_le_length (by unfold segN at h; omega)
      have hk : kN (d :: ds) n = 0 := by
        show (if segN d ≤ n then kN ds (n - segN d) + 1 else 0) = _
        rw [if_neg h]
      rw [e, hk, List.take_zero]
      exact scanF_none (fcut_none (deB d) n (by omega) (by unfold segN at h; omega))
/-- A file that is cut off: just the deeds that are there whole. -/
theorem cut_scan {ds : List De} (hr : ∀ d ∈ ds, RightD d) (hi : Rise 0 ds) (n : Nat) : scan ((segB ds).take n) = ds.take (kN ds n) := by
  have hc := kN_n ds n
  have hc2 := kN_le ds n
  have hc3 := segB_count ds
  unfold scan
  refine cut_scanF ds _ 0 n hr hi ?_
  rw [List.length_take]
  omega

theorem tells_n {A : Option Addr} {b : List UInt8} {c lo hi n m : Nat} {tt : Int} {B : Option Addr} {l : List Int} {cl : Nat} {w : World} (h : Rd w lo hi A b) (hh : hi ≤ w.heap.size) (hZ : RdZ w B l) (hn : b.length = n) (hm : l.length = m) (hlc : n ≤ c) (hcm : c ≤ maxLen) (hb : n ≤ 1000000000) (hl : m ≤ 100) (hok : ∀ z ∈ l, ZOk z) (hs : scan b = l.map syncD) (ht : ((segB (l.map syncD)).length : Int) = tt) (hH : Has w) :
    Calls Tryd.prog 7 #[.slice A n c, .int .i64 tt, .slice B m cl] w fun e w' => e = .returned (.bool true) ∧ Fr NoB w w' := by
  subst hn hm ht
  exact tells_calls A b c lo hi _ B l cl w h hh hZ hlc hcm hb hl hok hs rfl hH
theorem rows_n {A : Option Addr} {l : List Int} {c m n : Nat} {w : World} (h : RdZ w A l) (hm : l.length = m) (hl : m ≤ 100) (hz : ∀ z ∈ l, ZOk z) (hn : (segB (l.map syncD)).length = n) (hH : Has w) :
    Calls Tryd.prog 6 #[.slice A m c] w fun e w' => ∃ A' c', e = .returned (.slice A' n c') ∧ n ≤ c' ∧ c' ≤ maxLen ∧ w'.ownsRow w.heap.size 5 1 (.slice A' n c') n (bv (segB (l.map syncD))) ∧ Rd w' w.heap.size w'.heap.size A' (segB (l.map syncD)) ∧ Fr NoB w w' := by
  subst hm hn
  refine (rows_calls A l c w h hl hz hH).mono ?_
  rintro e w' ⟨v, rfl, ho, f⟩
  obtain ⟨A', c', rfl, h1, h2⟩ := own_form ho
  exact ⟨A', c', rfl, h1, h2, ho, own_rd ho, f⟩
theorem z1 : ZOk 1 := by unfold ZOk; omega
theorem z2 : ZOk 2 := by unfold ZOk; omega
theorem len1 : (segB ([1].map syncD)).length = 14 := by decide
theorem len12 : (segB ([1, 2].map syncD)).length = 28 := by decide
theorem segN1 : segN (syncD 1) = 14 := by decide
theorem segN2 : segN (syncD 2) = 14 := by decide
theorem z12 : ∀ z ∈ ([1, 2] : List Int), ZOk z := by simp [z1, z2]
theorem r12 : ∀ d ∈ ([1, 2] : List Int).map syncD, RightD d := by
  intro d hd
  obtain ⟨z, hz, rfl⟩ := List.mem_map.1 hd
  exact syncD_ok (z12 z hz)
theorem up12 : Rise 0 (([1, 2] : List Int).map syncD) := by simp [Rise, syncD, syncF]
theorem scan12 : scan (segB (([1, 2] : List Int).map syncD)) = ([1, 2] : List Int).map syncD := scan_segB r12 up12
theorem scan27 : scan ((segB (([1, 2] : List Int).map syncD)).take 27) = ([1] : List Int).map syncD := by
  rw [cut_scan r12 up12]
  have : kN (([1, 2] : List Int).map syncD) 27 = 1 := by simp [kN, segN1, segN2]
  rw [this]
  rfl
theorem scan21 : scan (segB (([2, 1] : List Int).map syncD)) = ([2] : List Int).map syncD :=
  scan_fall (ds := [syncD 2]) (by simp [syncD_ok z2]) (by simp [Rise, syncD, syncF]) (syncD 1) (syncD_ok z1) (by simp [lastZ, syncD, syncF]) []
theorem scan_nil : scan [] = [] := by decide
theorem put_zero (w : World) (hH : Has w) : Calls Tryd.prog 9 #[.agg #[.int .i64 0, .int .u8 0, .int .i64 0, .int .i64 0, .int .i64 0, .int .i64 0, .string ⟨#[]⟩, .slice none 0 0, .int .i64 0, .int .i64 0, .int .i64 0, .int .i64 0, .int .i64 0, .int .i64 0, .slice none 0 0, .slice none 0 0]] w fun e w' => ∃ A c, e = .returned (.tuple #[.slice A 0 c, .int .i64 4]) ∧ Fr NoB w w' := by
  refine (sput_calls (zcs_is w) (by simp) Fine.bare.ok Fine.bare.wide hH).mono ?_
  rw [show putS (bareF 0) [] = ([], 4) from if_neg (fun h => absurd h.1 (by simp [bareF]))]
  rintro e w' ⟨A, c, rfl, -, -, -, f⟩
  exact ⟨A, c, rfl, f⟩

set_option maxRecDepth 8000 in
set_option maxHeartbeats 3200000 in
theorem awake_calls (w : World) (hH : Has w) :
    Calls Tryd.prog 8 #[] w fun e w' => e = .returned (.bool true) ∧ Fr NoB w w' := by
  have HW := Lib.hid hH
  clear hH
  go_enter Tryd.func8, Tryd.ntmps8
  go_wp2_with (fail)
  refine (rows_n (RdZ.new w [1, 2] _) rfl (by decide) z12 len12 (HW.out.fr ((Fr.refl NoB w).alloc _))).mono ?_
  rintro e w1 ⟨A1, c1, rfl, h1, h2, -, hr1, f1⟩
  have F1 := Lib.hid (((Fr.refl NoB w).alloc (.cells #[.int .i64 1, .int .i64 2] 24)).then f1)
  go_wp2_with (fail)
  refine (put_zero w1 (HW.out.fr F1.out)).mono ?_
  rintro e w2 ⟨A2, c2, rfl, f2⟩
  go_wp2_with (fail)
  refine (tells_n (hr1.fr (f2.then ((Fr.refl NoB w2).alloc _)) (Nat.le_refl _) (fun _ _ _ x => x)) (Nat.le_trans f2.size (by simp)) (RdZ.new w2 [1, 2] _) len12 rfl h1 h2 (by decide) (by decide) z12 scan12 (by rw [len12]; rfl) (HW.out.fr ((F1.out.then f2).then ((Fr.refl NoB w2).alloc _)))).mono ?_
  rintro e w3 ⟨rfl, f3⟩
  have F3 := Lib.hid (((F1.out.then f2).then ((Fr.refl NoB w2).alloc (.cells #[.int .i64 1, .int .i64 2] 24))).then f3)
  have hr3 := Lib.hid (hr1.fr ((f2.then ((Fr.refl NoB w2).alloc (.cells #[.int .i64 1, .int .i64 2] 24))).then f3) (Nat.le_refl _) (fun _ _ _ x => x))
  have hs1 := Lib.hid (Nat.le_trans f2.size (Nat.le_trans ((Fr.refl NoB w2).alloc (.cells #[.int .i64 1, .int .i64 2] 24)).size f3.size))
  clear hr1 f1 f2 f3
  have hi27 : (27 : Int) ≤ (c1 : Int) := by omega
  go_wp2_with (fail)
  refine (tells_n ((hr3.out.fr ((Fr.refl NoB w3).alloc _) hs1.out (fun _ _ _ x => x)).take (n := 27)) (Nat.le_trans hs1.out (by simp)) (RdZ.new w3 [1] _) (by rw [List.length_take, len12]; rfl) rfl (by omega) h2 (by decide) (by decide) (by simp [z1]) scan27 (by rw [len1]; rfl) (HW.out.fr (F3.out.then ((Fr.refl NoB w3).alloc _)))).mono ?_
  rintro e w4 ⟨rfl, f4⟩
  have F4 := Lib.hid ((F3.out.then ((Fr.refl NoB w3).alloc (.cells #[.int .i64 1] 24))).then f4)
  clear f4
  go_wp2_with (fail)
  refine (rows_n (RdZ.new w4 [2, 1] _) rfl (by decide) (by simp [z1, z2]) (by decide : (segB ([2, 1].map syncD)).length = 28) (HW.out.fr (F4.out.then ((Fr.refl NoB w4).alloc _)))).mono ?_
  rintro e w5 ⟨A5, c5, rfl, k1, k2, -, hr5, f5⟩
  have F5 := Lib.hid ((F4.out.then ((Fr.refl NoB w4).alloc (.cells #[.int .i64 2, .int .i64 1] 24))).then f5)
  have HR5 := Lib.hid hr5
  clear f5 hr5
  go_wp2_with (fail)
  refine (tells_n (HR5.out.fr ((Fr.refl NoB w5).alloc _) (Nat.le_refl _) (fun _ _ _ x => x)) (by simp) (RdZ.new w5 [2] _) (by decide) rfl k1 k2 (by decide) (by decide) (by simp [z2]) scan21 (by decide) (HW.out.fr (F5.out.then ((Fr.refl NoB w5).alloc _)))).mono ?_
  rintro e w6 ⟨rfl, f6⟩
  have F6 := Lib.hid ((F5.out.then ((Fr.refl NoB w5).alloc (.cells #[.int .i64 2] 24))).then f6)
  clear f6
  go_wp2_with (fail)
  refine (tells_n (Rd.nil w6 0 0 none) (Nat.zero_le _) (RdZ.nil w6 none) rfl rfl (Nat.le_refl _) (Nat.zero_le _) (by decide) (by decide) (by simp) scan_nil rfl (HW.out.fr F6.out)).mono ?_
  rintro e w7 ⟨rfl, f7⟩
  go_wp2
  go_ret
  exact ⟨rfl, F6.out.then f7⟩
end Go.Proofs.YtmlmbahimklfiaaDoor
