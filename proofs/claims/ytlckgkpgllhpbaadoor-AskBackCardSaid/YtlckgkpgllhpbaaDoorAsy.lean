/-
  Asy: replies that are the same.
-/
import Derived.Test.YtlckgkpgllhpbaaDoorAsa
import Derived.Test.YtlckgkpgllhpbaaDoorAyw
namespace Go.Proofs.YtlckgkpgllhpbaaDoor
open Go.RowKit

set_option maxRecDepth 20000 in
theorem stat_eql (s0 s1 s2 s3 s4 s5 s6 s7 s8 s9 : Int) (W : World) : (binOp .eql 37 (.agg #[.int .i64 s0, .int .i64 s1, .int .i64 s2, .int .i64 s3, .int .i64 s4, .int .i64 s5, .int .i64 s6, .int .i64 s7, .int .i64 s8, .int .i64 s9]) (.agg #[.int .i64 s0, .int .i64 s1, .int .i64 s2, .int .i64 s3, .int .i64 s4, .int .i64 s5, .int .i64 s6, .int .i64 s7, .int .i64 s8, .int .i64 s9])).run Tryd.prog W = .ok (.bool true) W := by
  obtain ⟨d, hd⟩ : ∃ d, 10000 = d + 1 + 1 + 1 := ⟨9997, rfl⟩
  rw [run_eql_struct, hd, run_equalIn_agg W _ 37 _ _ (by kernel_rfl) (by kernel_rfl)]
  have hf : (Program.fieldsOf Tryd.prog 37) = (match Tryd.prog.underlying 37 with | some (.struct fs) => fs | _ => #[]) := rfl
  rw [Tryd.underlying37] at hf
  rw [hf]
  simp [go_sem, Tryd.underlying3, Tryd.underlying2, Tryd.underlying25]
set_option maxHeartbeats 1600000 in
theorem sametexts_calls (A A' : Option Addr) (l : List (List UInt8)) (c c' lo hi lo' hi' : Nat) (w : World) (h : RdT w lo hi A l) (h' : RdT w lo' hi' A' l) (hl : l.length ≤ 140737488355328) :
    Calls Tryd.prog 55 #[.slice A l.length c, .slice A' l.length c'] w fun e w' => e = .returned (.bool true) ∧ ∃ n, w' = w.drewN n := by
  have HR := Lib.hid h
  have HR2 := Lib.hid h'
  clear h h'
  go_enter Tryd.func55, Tryd.ntmps55
  go_wp2
  go_loopw [5] (fun i wr => ∃ k : Nat, k ≤ l.length ∧ i = .int .i64 (k : Int) ∧ ∃ n, wr = w.drewN n) (fun i _ => l.length - (intOf i).toNat)
  case atStart => exact ⟨0, Nat.zero_le _, rfl, 0, rfl⟩
  case round =>
    obtain ⟨k, hk, rfl, n, rfl⟩ := hrel
    by_cases hlt : k < l.length
    · obtain ⟨b, o, rfl, -, -, h0⟩ := HR.out (by omega)
      obtain ⟨b', o', rfl, -, -, h0'⟩ := HR2.out (by omega)
      have c0 := h0 k l[k] (List.getElem?_eq_getElem hlt)
      have d0 := h0' k l[k] (List.getElem?_eq_getElem hlt)
      clear h0 h0'
      generalize l[k] = x at c0 d0
      have hxx : ((⟨x.toArray⟩ : ByteArray) != ⟨x.toArray⟩) = false := by
        show (!(x.toArray == x.toArray)) = false
        simp
      have hi1 : ((k : Int) < (l.length : Int)) := by omega
      go_wp2
      go_quiet (fail)
      go_wp2
      go_roundw
      case rel => exact ⟨k + 1, by omega, by go_num, n + nq, by simp⟩
      case measure => simp [intOf]; omega
    · obtain rfl : k = l.length := by omega
      go_wp2
      go_ret
      exact ⟨rfl, n, rfl⟩
set_option maxRecDepth 8000 in
set_option maxHeartbeats 6400000 in
theorem sameY_of (f : Fy) (pl pl' : Py) (np lo hi lo' hi' : Nat) (w : World) (hf : f.Ok ∧ ∀ t ∈ f.ls, t.length ≤ 140737488351232) (hD : Rd w lo hi pl.A f.data) (hT : RdT w lo hi pl.L f.ls) (hM : RdM w lo hi pl.B f.c.2) (hh : hi ≤ w.heap.size) (hD' : Rd w lo' hi' pl'.A f.data) (hT' : RdT w lo' hi' pl'.L f.ls) (hM' : RdM w lo' hi' pl'.B f.c.2) (hh' : hi' ≤ w.heap.size)
    (hS : ∀ W, Fr NoB w W → Calls Tryd.prog 57 #[.slice pl.P np pl.e, .slice pl'.P np pl'.e] W fun e w' => e = .returned (.bool true) ∧ Fr NoB W w') :
    Calls Tryd.prog 24 #[yval f pl np, yval f pl' np] w fun e w' => e = .returned (.bool true) ∧ Fr NoB w w' := by
  have hsb := fun W (F : Fr NoB w W) => same_calls pl.A pl'.A f.data f.data pl.c pl'.c lo hi lo' hi' W (hD.fr F hh (fun _ _ _ x => x)) (hD'.fr F hh' (fun _ _ _ x => x)) hf.1.data hf.1.data
  rw [show (f.data == f.data) = true by simp] at hsb
  have hst := fun W (F : Fr NoB w W) => sametexts_calls pl.L pl'.L f.ls pl.n pl'.n lo hi lo' hi' W (hT.fr F hh (fun _ _ _ x => x)) (hT'.fr F hh' (fun _ _ _ x => x)) hf.1.ls
  have hse := fun W (F : Fr NoB w W) => sameE_calls f.c.1 pl.B pl'.B f.c.2 pl.d pl'.d lo hi lo' hi' W (hM.fr F hh (fun _ _ _ x => x)) (Nat.le_trans hh F.size) (hM'.fr F hh' (fun _ _ _ x => x)) (Nat.le_trans hh' F.size) (by have := hf.1.ms; omega)
  have HSB := Lib.hid hsb
  have HST := Lib.hid hst
  have HSE := Lib.hid hse
  have HS := Lib.hid hS
  clear hsb hst hse hS hD hT hM hD' hT' hM' hf
  obtain ⟨k, hd, path, data, st, ls, ver, ms⟩ := f
  obtain ⟨A, c, L, n, B, d, P, e1⟩ := pl
  obtain ⟨A', c', L', n', B', d', P', e1'⟩ := pl'
  simp only [yval, ycells] at *
  generalize hd.getD 0 0 = h0 at *
  generalize hd.getD 1 0 = h1 at *
  generalize hd.getD 2 0 = h2 at *
  generalize hd.getD 3 0 = h3 at *
  generalize hd.getD 4 0 = h4 at *
  generalize st.getD 0 0 = s0 at *
  generalize st.getD 1 0 = s1 at *
  generalize st.getD 2 0 = s2 at *
  generalize st.getD 3 0 = s3 at *
  generalize st.getD 4 0 = s4 at *
  generalize st.getD 5 0 = s5 at *
  generalize st.getD 6 0 = s6 at *
  generalize st.getD 7 0 = s7 at *
  generalize st.getD 8 0 = s8 at *
  generalize st.getD 9 0 = s9 at *
  have heq := stat_eql s0 s1 s2 s3 s4 s5 s6 s7 s8 s9
  have F2 := Lib.hid (((Fr.refl NoB w).alloc (.cells #[.int .u8 k, .int .i64 h0, .int .i64 h1, .int .i64 h2, .int .i64 h3, .int .i64 h4, .string ⟨path.toArray⟩, .slice A data.length c, .int .i64 s0, .int .i64 s1, .int .i64 s2, .int .i64 s3, .int .i64 s4, .int .i64 s5, .int .i64 s6, .int .i64 s7, .int .i64 s8, .int .i64 s9, .slice L ls.length n, .int .i64 ver, .slice B ms.length d, .slice P np e1] 43)).alloc (.cells #[.int .u8 k, .int .i64 h0, .int .i64 h1, .int .i64 h2, .int .i64 h3, .int .i64 h4, .string ⟨path.toArray⟩, .slice A' data.length c', .int .i64 s0, .int .i64 s1, .int .i64 s2, .int .i64 s3, .int .i64 s4, .int .i64 s5, .int .i64 s6, .int .i64 s7, .int .i64 s8, .int .i64 s9, .slice L' ls.length n', .int .i64 ver, .slice B' ms.length d', .slice P' np e1'] 43))
  have HB1 := Lib.hid (heap_alloc2_old w (.cells #[.int .u8 k, .int .i64 h0, .int .i64 h1, .int .i64 h2, .int .i64 h3, .int .i64 h4, .string ⟨path.toArray⟩, .slice A data.length c, .int .i64 s0, .int .i64 s1, .int .i64 s2, .int .i64 s3, .int .i64 s4, .int .i64 s5, .int .i64 s6, .int .i64 s7, .int .i64 s8, .int .i64 s9, .slice L ls.length n, .int .i64 ver, .slice B ms.length d, .slice P np e1] 43) (.cells #[.int .u8 k, .int .i64 h0, .int .i64 h1, .int .i64 h2, .int .i64 h3, .int .i64 h4, .string ⟨path.toArray⟩, .slice A' data.length c', .int .i64 s0, .int .i64 s1, .int .i64 s2, .int .i64 s3, .int .i64 s4, .int .i64 s5, .int .i64 s6, .int .i64 s7, .int .i64 s8, .int .i64 s9, .slice L' ls.length n', .int .i64 ver, .slice B' ms.length d', .slice P' np e1'] 43))
  have HB2 := Lib.hid (heap_alloc2_new w (.cells #[.int .u8 k, .int .i64 h0, .int .i64 h1, .int .i64 h2, .int .i64 h3, .int .i64 h4, .string ⟨path.toArray⟩, .slice A data.length c, .int .i64 s0, .int .i64 s1, .int .i64 s2, .int .i64 s3, .int .i64 s4, .int .i64 s5, .int .i64 s6, .int .i64 s7, .int .i64 s8, .int .i64 s9, .slice L ls.length n, .int .i64 ver, .slice B ms.length d, .slice P np e1] 43) (.cells #[.int .u8 k, .int .i64 h0, .int .i64 h1, .int .i64 h2, .int .i64 h3, .int .i64 h4, .string ⟨path.toArray⟩, .slice A' data.length c', .int .i64 s0, .int .i64 s1, .int .i64 s2, .int .i64 s3, .int .i64 s4, .int .i64 s5, .int .i64 s6, .int .i64 s7, .int .i64 s8, .int .i64 s9, .slice L' ls.length n', .int .i64 ver, .slice B' ms.length d', .slice P' np e1'] 43))
  go_enter Tryd.func24, Tryd.ntmps24
  go_wp2_with (fail)
  refine (HSB.out _ F2.out).mono ?_
  rintro e w1 ⟨rfl, nq, hw1⟩
  have F1 : Hid (Fr NoB w w1) := by rw [hw1]; exact F2.out.drewN nq
  have HC1 : Hid (w1.heap[w.heap.size]? = some (.cells #[.int .u8 k, .int .i64 h0, .int .i64 h1, .int .i64 h2, .int .i64 h3, .int .i64 h4, .string ⟨path.toArray⟩, .slice A data.length c, .int .i64 s0, .int .i64 s1, .int .i64 s2, .int .i64 s3, .int .i64 s4, .int .i64 s5, .int .i64 s6, .int .i64 s7, .int .i64 s8, .int .i64 s9, .slice L ls.length n, .int .i64 ver, .slice B ms.length d, .slice P np e1] 43 (0, 0))) := by rw [hw1]; exact HB1.out
  have HC2 : Hid (w1.heap[w.heap.size + 1]? = some (.cells #[.int .u8 k, .int .i64 h0, .int .i64 h1, .int .i64 h2, .int .i64 h3, .int .i64 h4, .string ⟨path.toArray⟩, .slice A' data.length c', .int .i64 s0, .int .i64 s1, .int .i64 s2, .int .i64 s3, .int .i64 s4, .int .i64 s5, .int .i64 s6, .int .i64 s7, .int .i64 s8, .int .i64 s9, .slice L' ls.length n', .int .i64 ver, .slice B' ms.length d', .slice P' np e1'] 43 (0, 0))) := by rw [hw1]; exact HB2.out
  clear hw1 F2 HB1 HB2 HSB
  generalize w.heap.size = NB at *
  have a8 := (cells_of HC1.out 8).1
  have a9 := (cells_of HC1.out 9).1
  have a10 := (cells_of HC1.out 10).1
  have a11 := (cells_of HC1.out 11).1
  have a12 := (cells_of HC1.out 12).1
  have a13 := (cells_of HC1.out 13).1
  have a14 := (cells_of HC1.out 14).1
  have a15 := (cells_of HC1.out 15).1
  have a16 := (cells_of HC1.out 16).1
  have a17 := (cells_of HC1.out 17).1
  have a18 := (cells_of HC1.out 18).1
  have b8 := (cells_of HC2.out 8).1
  have b9 := (cells_of HC2.out 9).1
  have b10 := (cells_of HC2.out 10).1
  have b11 := (cells_of HC2.out 11).1
  have b12 := (cells_of HC2.out 12).1
  have b13 := (cells_of HC2.out 13).1
  have b14 := (cells_of HC2.out 14).1
  have b15 := (cells_of HC2.out 15).1
  have b16 := (cells_of HC2.out 16).1
  have b17 := (cells_of HC2.out 17).1
  have b18 := (cells_of HC2.out 18).1
  simp only [List.getElem?_toArray, List.getElem?_cons_zero, List.getElem?_cons_succ] at a8 a9 a10 a11 a12 a13 a14 a15 a16 a17 a18 b8 b9 b10 b11 b12 b13 b14 b15 b16 b17 b18
  go_wp2_with (fail)
  refine (HST.out _ F1.out).mono ?_
  rintro e w2 ⟨rfl, n2, hw2⟩
  have F3 : Hid (Fr NoB w w2) := by rw [hw2]; exact F1.out.drewN n2
  have HD1 : Hid (w2.heap[NB]? = some (.cells #[.int .u8 k, .int .i64 h0, .int .i64 h1, .int .i64 h2, .int .i64 h3, .int .i64 h4, .string ⟨path.toArray⟩, .slice A data.length c, .int .i64 s0, .int .i64 s1, .int .i64 s2, .int .i64 s3, .int .i64 s4, .int .i64 s5, .int .i64 s6, .int .i64 s7, .int .i64 s8, .int .i64 s9, .slice L ls.length n, .int .i64 ver, .slice B ms.length d, .slice P np e1] 43 (0, 0))) := by rw [hw2]; exact HC1.out
  have HD2 : Hid (w2.heap[NB + 1]? = some (.cells #[.int .u8 k, .int .i64 h0, .int .i64 h1, .int .i64 h2, .int .i64 h3, .int .i64 h4, .string ⟨path.toArray⟩, .slice A' data.length c', .int .i64 s0, .int .i64 s1, .int .i64 s2, .int .i64 s3, .int .i64 s4, .int .i64 s5, .int .i64 s6, .int .i64 s7, .int .i64 s8, .int .i64 s9, .slice L' ls.length n', .int .i64 ver, .slice B' ms.length d', .slice P' np e1'] 43 (0, 0))) := by rw [hw2]; exact HC2.out
  clear hw2 F1 HC1 HC2 HST heq a8 b8 a9 b9 a10 b10 a11 b11 a12 b12 a13 b13 a14 b14 a15 b15 a16 b16 a17 b17 a18 b18
  have a19 := (cells_of HD1.out 19).1
  have a20 := (cells_of HD1.out 20).1
  have b19 := (cells_of HD2.out 19).1
  have b20 := (cells_of HD2.out 20).1
  simp only [List.getElem?_toArray, List.getElem?_cons_zero, List.getElem?_cons_succ] at a19 a20 b19 b20
  go_wp2_with (fail)
  refine (HSE.out _ F3.out).mono ?_
  rintro e w3 ⟨rfl, f3⟩
  have c21 := (cells_of (f3.at_ HD1.out (fun x => x)) 21).1
  have d21 := (cells_of (f3.at_ HD2.out (fun x => x)) 21).1
  simp only [List.getElem?_toArray, List.getElem?_cons_zero, List.getElem?_cons_succ] at c21 d21
  have G2 := Lib.hid (F3.out.then f3)
  clear a19 a20 b19 b20 f3 HSE
  go_wp2_with (fail)
  refine (HS.out _ G2.out).mono ?_
  rintro e w4 ⟨rfl, f4⟩
  go_wp2
  go_ret
  exact ⟨rfl, G2.out.then f4⟩

theorem samesY0_calls (A A' : Option Addr) (c c' : Nat) (w : World) :
    Calls Tryd.prog 57 #[.slice A 0 c, .slice A' 0 c'] w fun e w' => e = .returned (.bool true) ∧ Fr NoB w w' := by
  go_enter Tryd.func57, Tryd.ntmps57
  go_wp2
  go_loopw [5] (fun i W => i = .int .i64 0 ∧ W = w) (fun _ _ => 0)
  case atStart => exact ⟨rfl, rfl⟩
  case round =>
    obtain ⟨rfl, rfl⟩ := hrel
    go_wp2
    go_ret
    exact ⟨rfl, Fr.refl _ _⟩
theorem rsizeY {f : Fy} {p : Py} {np : Nat} : (Tryd.prog.info? 43).map (·.size) = some (ycells f p np).toList.length := by kernel_rfl
set_option maxRecDepth 8000 in
set_option maxHeartbeats 6400000 in
theorem samesY_calls (A A' : Option Addr) (l : List (Fy × Nat)) (c c' lo hi lo' hi' : Nat) (w : World) (h : RdPy w lo hi A l) (hh : hi ≤ w.heap.size) (h' : RdPy w lo' hi' A' l) (hh' : hi' ≤ w.heap.size) (hl : l.length ≤ 140737488355328) (hok : ∀ q ∈ l, (q.1.Ok ∧ ∀ t ∈ q.1.ls, t.length ≤ 140737488351232) ∧ q.2 = 0) :
    Calls Tryd.prog 57 #[.slice A l.length c, .slice A' l.length c'] w fun e w' => e = .returned (.bool true) ∧ Fr NoB w w' := by
  have HR := Lib.hid h
  have HR2 := Lib.hid h'
  have HOK := Lib.hid hok
  clear h h' hok
  go_enter Tryd.func57, Tryd.ntmps57
  go_wp2
  go_loopw [5] (fun i W => ∃ k : Nat, k ≤ l.length ∧ i = .int .i64 (k : Int) ∧ Fr NoB w W) (fun i _ => l.length - (intOf i).toNat)
  case atStart => exact ⟨0, Nat.zero_le _, rfl, Fr.refl _ _⟩
  case round =>
    obtain ⟨k, hk, rfl, hf⟩ := hrel
    have F := Lib.hid hf
    clear hf
    by_cases hlt : k < l.length
    · have hki : (k : Int) < (l.length : Int) := by omega
      have hk0 : (0 : Int) ≤ (k : Int) := by omega
      obtain ⟨b, o, rfl, hb1, hb2, h4⟩ := HR.out (by omega)
      obtain ⟨b2, o2, rfl, hb3, hb4, h5⟩ := HR2.out (by omega)
      obtain ⟨pl, hcs, hrd, hrt, hrm⟩ := h4 k l[k] (List.getElem?_eq_getElem hlt)
      obtain ⟨pl2, hcs2, hrd2, hrt2, hrm2⟩ := h5 k l[k] (List.getElem?_eq_getElem hlt)
      have hq := HOK.out l[k] (List.getElem_mem hlt)
      clear h4 h5
      generalize l[k] = q at hcs hrd hrt hrm hcs2 hrd2 hrt2 hrm2 hq
      obtain ⟨f, np⟩ := q
      simp only at hcs hrd hrt hrm hcs2 hrd2 hrt2 hrm2 hq
      obtain ⟨hfok, rfl⟩ := hq
      have hsd := fun W (G : Fr NoB wr W) => sameY_of f pl pl2 0 lo hi lo' hi' W hfok ((hrd.fr F.out hh (fun _ _ _ x => x)).fr G (Nat.le_trans hh F.out.size) (fun _ _ _ x => x)) ((hrt.fr F.out hh (fun _ _ _ x => x)).fr G (Nat.le_trans hh F.out.size) (fun _ _ _ x => x)) ((hrm.fr F.out hh (fun _ _ _ x => x)).fr G (Nat.le_trans hh F.out.size) (fun _ _ _ x => x)) (Nat.le_trans (Nat.le_trans hh F.out.size) G.size) ((hrd2.fr F.out hh' (fun _ _ _ x => x)).fr G (Nat.le_trans hh' F.out.size) (fun _ _ _ x => x)) ((hrt2.fr F.out hh' (fun _ _ _ x => x)).fr G (Nat.le_trans hh' F.out.size) (fun _ _ _ x => x)) ((hrm2.fr F.out hh' (fun _ _ _ x => x)).fr G (Nat.le_trans hh' F.out.size) (fun _ _ _ x => x)) (Nat.le_trans (Nat.le_trans hh' F.out.size) G.size) (fun W2 _ => samesY0_calls _ _ _ _ W2)
      have HC : ∀ W, Fr NoB wr W → W.rangeAt b (o + k * 22) (ycells f pl 0).toList := fun W G j v hv => ((F.out.then G).cell (p := ⟨b, o + k * 22 + j, none⟩) (by simp only; omega) (fun x => x)).trans (hcs j v (by simpa using hv))
      have HC2 : ∀ W, Fr NoB wr W → W.rangeAt b2 (o2 + k * 22) (ycells f pl2 0).toList := fun W G j v hv => ((F.out.then G).cell (p := ⟨b2, o2 + k * 22 + j, none⟩) (by simp only; omega) (fun x => x)).trans (hcs2 j v (by simpa using hv))
      have hz1 : (Tryd.prog.info? 43).map (·.size) = some (ycells f pl 0).toList.length := rsizeY
      have hz2 : (Tryd.prog.info? 43).map (·.size) = some (ycells f pl2 0).toList.length := rsizeY
      simp only [yval] at hsd
      obtain ⟨CS1, h1⟩ : ∃ C, ycells f pl 0 = C := ⟨_, rfl⟩
      obtain ⟨CS2, h2⟩ : ∃ C, ycells f pl2 0 = C := ⟨_, rfl⟩
      rw [h1] at HC hz1 hsd
      rw [h2] at HC2 hz2 hsd
      have HSD := Lib.hid hsd
      have HZ1 := Lib.hid hz1
      have HZ2 := Lib.hid hz2
      have hcd : wr.drew.rangeAt b (o + k * 22) CS1.toList ∧ wr.drew.rangeAt b2 (o2 + k * 22) CS2.toList := ⟨HC _ (Fr.refl NoB wr).drew, HC2 _ (Fr.refl NoB wr).drew⟩
      have HCH := Lib.hid HC
      have HCH2 := Lib.hid HC2
      clear hsd hz1 hz2 h1 h2 HC HC2 hcs hcs2 hrd hrt hrm hrd2 hrt2 hrm2 hfok HR HR2 HOK
      go_wp2
      refine wp_region_any (by kernel_rfl) (wpAny_of_J (S := fun _ X => X.rangeAt b (o + k * 22) CS1.toList ∧ X.rangeAt b2 (o2 + k * 22) CS2.toList) _ _ _ _ ?_)
      show wpAnyJ _ _ _ _ _ _ _ _ wr.drew
      simp only [List.size_toArray, List.length_cons, List.length_nil, Nat.reduceAdd]
      refine J_take (i := 0) (v := ?_) (fun X : World => X.rangeAt b (o + k * 22) CS1.toList ∧ X.rangeAt b2 (o2 + k * 22) CS2.toList) (fun j => true) (by simp only [List.getElem?_toArray, List.getElem?_cons_zero]; rfl) (by kernel_rfl) (by kernel_rfl) (by kernel_rfl) (by kernel_rfl) (by exact fun _ _ _ h => h) (fun j X _ h => h) (fun X h => h) hcd (Or.inl ⟨by rfl, ?_⟩) ?_
      rotate_left
      · intro X hX; go_simp; (try with_reducible rfl)
      try simp only [Act.put, List.setIfInBounds_toArray, List.set_cons_zero, List.set_cons_succ]
      refine J_take (i := 1) (v := ?_) (fun X : World => X.rangeAt b (o + k * 22) CS1.toList ∧ X.rangeAt b2 (o2 + k * 22) CS2.toList) (fun j => true) (by simp only [List.getElem?_toArray, List.getElem?_cons_succ, List.getElem?_cons_zero]; rfl) (by kernel_rfl) (by kernel_rfl) (by kernel_rfl) (by kernel_rfl) (by exact fun _ _ _ h => h) (fun j X _ h => h) (fun X h => h) hcd (Or.inl ⟨by rfl, ?_⟩) ?_
      rotate_left
      · intro X hX; go_simp; (try with_reducible rfl)
      try simp only [Act.put, List.setIfInBounds_toArray, List.set_cons_zero, List.set_cons_succ]
      refine J_take (i := 2) (v := ?_) (fun X : World => X.rangeAt b (o + k * 22) CS1.toList ∧ X.rangeAt b2 (o2 + k * 22) CS2.toList) (fun j => true) (by simp only [List.getElem?_toArray, List.getElem?_cons_succ, List.getElem?_cons_zero]; rfl) (by kernel_rfl) (by kernel_rfl) (by kernel_rfl) (by kernel_rfl) (by exact fun _ _ _ h => h) (fun j X _ h => h) (fun X h => h) hcd (Or.inl ⟨by rfl, ?_⟩) ?_
      rotate_left
      · intro X hX; go_simp; (try with_reducible rfl)
      try simp only [Act.put, List.setIfInBounds_toArray, List.set_cons_zero, List.set_cons_succ]
      refine J_take (i := 3) (v := .agg CS1) (fun X : World => X.rangeAt b (o + k * 22) CS1.toList ∧ X.rangeAt b2 (o2 + k * 22) CS2.toList) (fun _ => true) (by simp only [List.getElem?_toArray, List.getElem?_cons_succ, List.getElem?_cons_zero]; rfl) (by kernel_rfl) (by kernel_rfl) (by kernel_rfl) (by kernel_rfl) (by exact fun _ _ _ h => h) (fun j X _ h => h) (fun X h => h) hcd (yieldsIf_load_mid (by rfl) 43 (.tmp 19) rfl b (o + k * 22) rfl CS1.toList _ (fun X h => h.1) Tryd.underlying43 rfl HZ1.out) ?_
      try simp only [Act.put, List.setIfInBounds_toArray, List.set_cons_zero, List.set_cons_succ]
      refine J_take (i := 4) (v := ?_) (fun X : World => X.rangeAt b (o + k * 22) CS1.toList ∧ X.rangeAt b2 (o2 + k * 22) CS2.toList) (fun j => true) (by simp only [List.getElem?_toArray, List.getElem?_cons_succ, List.getElem?_cons_zero]; rfl) (by kernel_rfl) (by kernel_rfl) (by kernel_rfl) (by kernel_rfl) (by exact fun _ _ _ h => h) (fun j X _ h => h) (fun X h => h) hcd (Or.inl ⟨by rfl, ?_⟩) ?_
      rotate_left
      · intro X hX; go_simp; (try with_reducible rfl)
      try simp only [Act.put, List.setIfInBounds_toArray, List.set_cons_zero, List.set_cons_succ]
      refine J_take (i := 5) (v := ?_) (fun X : World => X.rangeAt b (o + k * 22) CS1.toList ∧ X.rangeAt b2 (o2 + k * 22) CS2.toList) (fun j => true) (by simp only [List.getElem?_toArray, List.getElem?_cons_succ, List.getElem?_cons_zero]; rfl) (by kernel_rfl) (by kernel_rfl) (by kernel_rfl) (by kernel_rfl) (by exact fun _ _ _ h => h) (fun j X _ h => h) (fun X h => h) hcd (Or.inl ⟨by rfl, ?_⟩) ?_
      rotate_left
      · intro X hX; go_simp; (try with_reducible rfl)
      try simp only [Act.put, List.setIfInBounds_toArray, List.set_cons_zero, List.set_cons_succ]
      refine J_take (i := 6) (v := ?_) (fun X : World => X.rangeAt b (o + k * 22) CS1.toList ∧ X.rangeAt b2 (o2 + k * 22) CS2.toList) (fun j => true) (by simp only [List.getElem?_toArray, List.getElem?_cons_succ, List.getElem?_cons_zero]; rfl) (by kernel_rfl) (by kernel_rfl) (by kernel_rfl) (by kernel_rfl) (by exact fun _ _ _ h => h) (fun j X _ h => h) (fun X h => h) hcd (Or.inl ⟨by rfl, ?_⟩) ?_
      rotate_left
      · intro X hX; go_simp; (try with_reducible rfl)
      try simp only [Act.put, List.setIfInBounds_toArray, List.set_cons_zero, List.set_cons_succ]
      refine J_take (i := 7) (v := .agg CS2) (fun X : World => X.rangeAt b (o + k * 22) CS1.toList ∧ X.rangeAt b2 (o2 + k * 22) CS2.toList) (fun _ => true) (by simp only [List.getElem?_toArray, List.getElem?_cons_succ, List.getElem?_cons_zero]; rfl) (by kernel_rfl) (by kernel_rfl) (by kernel_rfl) (by kernel_rfl) (by exact fun _ _ _ h => h) (fun j X _ h => h) (fun X h => h) hcd (yieldsIf_load_mid (by rfl) 43 (.tmp 23) rfl b2 (o2 + k * 22) rfl CS2.toList _ (fun X h => h.2) Tryd.underlying43 rfl HZ2.out) ?_
      try simp only [Act.put, List.setIfInBounds_toArray, List.set_cons_zero, List.set_cons_succ]
      refine J_all (rs := [8]) (by kernel_rfl) (by simp) (fun i hi => ?_)
      simp only [List.mem_cons, List.not_mem_nil, or_false] at hi
      subst hi
      refine J_oneH (by simp only [List.getElem?_toArray, List.getElem?_cons_succ, List.getElem?_cons_zero]; rfl) rfl (fun K hK => ?_)
      go_simp
      refine (HSD.out _ (Fr.refl NoB wr).drew).mono ?_
      rintro e w2 ⟨rfl, f2⟩
      skip
      refine hK.out _ _ ⟨⟨HCH.out _ ((Fr.refl NoB wr).drew.then f2), HCH2.out _ ((Fr.refl NoB wr).drew.then f2)⟩, ?_⟩
      clear hK K
      refine J_all (rs := [9]) (by kernel_rfl) (by simp) (fun i hi => ?_)
      simp only [List.mem_cons, List.not_mem_nil, or_false] at hi
      subst hi
      refine J_oneH (by simp only [List.getElem?_toArray, List.getElem?_cons_succ, List.getElem?_cons_zero]; rfl) rfl (fun K hK => ?_)
      go_simp
      try simp only [Act.put, List.setIfInBounds_toArray, List.set_cons_zero, List.set_cons_succ]
      refine hK.out _ _ ⟨⟨HCH.out _ ((Fr.refl NoB wr).drew.then f2), HCH2.out _ ((Fr.refl NoB wr).drew.then f2)⟩, ?_⟩
      clear hK K
      refine J_done (by kernel_rfl) ?_
      all_goals
        go_wp2
        go_roundw
        case rel => exact ⟨k + 1, by omega, by go_num, (F.out.drew).then f2⟩
        case measure => simp [intOf]; omega
    · obtain rfl : k = l.length := by omega
      go_wp2
      go_ret
      exact ⟨rfl, F.out⟩
theorem sameY_calls (f : Fy) (pl pl' : Py) (l : List (Fy × Nat)) (lo hi lo' hi' : Nat) (w : World) (hf : f.Ok ∧ ∀ t ∈ f.ls, t.length ≤ 140737488351232) (hok : ∀ q ∈ l, (q.1.Ok ∧ ∀ t ∈ q.1.ls, t.length ≤ 140737488351232) ∧ q.2 = 0) (hl : l.length ≤ 140737488355328) (hD : RdY w lo hi f pl l) (hh : hi ≤ w.heap.size) (hD' : RdY w lo' hi' f pl' l) (hh' : hi' ≤ w.heap.size) :
    Calls Tryd.prog 24 #[yval f pl l.length, yval f pl' l.length] w fun e w' => e = .returned (.bool true) ∧ Fr NoB w w' :=
  sameY_of f pl pl' l.length lo hi lo' hi' w hf hD.data hD.ls hD.ms hh hD'.data hD'.ls hD'.ms hh' fun W F => samesY_calls pl.P pl'.P l pl.e pl'.e lo hi lo' hi' W (hD.parts.fr F hh (fun _ _ _ x => x)) (Nat.le_trans hh F.size) (hD'.parts.fr F hh' (fun _ _ _ x => x)) (Nat.le_trans hh' F.size) hl hok
end Go.Proofs.YtlckgkpgllhpbaaDoor
