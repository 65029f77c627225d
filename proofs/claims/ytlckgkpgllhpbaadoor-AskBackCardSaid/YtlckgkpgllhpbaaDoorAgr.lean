/-
  Agr: great and wide answer, of any call and any reply.
-/
import Derived.Test.YtlckgkpgllhpbaaDoorAkm
import Derived.Test.YtlckgkpgllhpbaaDoorEng
import Derived.Deep.RegionHeld3
namespace Go.Proofs.YtlckgkpgllhpbaaDoor
open Go.RowKit

/-- It answers a bool. -/
def IsBool (e : Ending) : Prop := ∃ g : Bool, e = .returned (.bool g)
set_option maxRecDepth 8000 in
set_option maxHeartbeats 6400000 in
theorem great_calls (f : Fa) (p : Pl) (l : List (Fa × Nat)) (lo hi : Nat) (w : World) (h : RdPa w lo hi p.P l) (hh : hi ≤ w.heap.size) (hl : l.length ≤ 140737488355328) :
    Calls Tryd.prog 7 #[aval f p l.length] w fun e w' => IsBool e ∧ Fr NoB w w' := by
  have HR := Lib.hid h
  clear h
  obtain ⟨k, x, s, t, path, data, fl, ve, wa, so, la, ti, fr, ms⟩ := f
  obtain ⟨A, c, B, d, P, e'⟩ := p
  simp only at HR
  simp only [aval, acells] at *
  go_enter Tryd.func7, Tryd.ntmps7
  go_wp2
  have F0 := Lib.hid ((Fr.refl NoB w).alloc (.cells #[.int .u8 k, .int .i64 x, .int .i64 s, .int .i64 t, .string ⟨path.toArray⟩, .slice A data.length c, .int .i64 fl, .int .i64 ve, .bool wa, .int .u8 so, .int .i64 la, .int .i64 ti, .int .i64 fr, .slice B ms.length d, .slice P l.length e'] 29))
  have HB := Lib.hid (heap_alloc_new w (.cells #[.int .u8 k, .int .i64 x, .int .i64 s, .int .i64 t, .string ⟨path.toArray⟩, .slice A data.length c, .int .i64 fl, .int .i64 ve, .bool wa, .int .u8 so, .int .i64 la, .int .i64 ti, .int .i64 fr, .slice B ms.length d, .slice P l.length e'] 29))
  generalize w.alloc (.cells #[.int .u8 k, .int .i64 x, .int .i64 s, .int .i64 t, .string ⟨path.toArray⟩, .slice A data.length c, .int .i64 fl, .int .i64 ve, .bool wa, .int .u8 so, .int .i64 la, .int .i64 ti, .int .i64 fr, .slice B ms.length d, .slice P l.length e'] 29) = wb at F0 HB ⊢
  generalize w.heap.size = N at HB ⊢
  go_loopw [3, 4] (fun n i W => ∃ (j : Nat) (y : Int), j ≤ l.length ∧ n = .int .i64 y ∧ i = .int .i64 (j : Int) ∧ Fr NoB wb W) (fun _ i _ => l.length - (intOf i).toNat)
  case atStart => exact ⟨0, _, Nat.zero_le _, rfl, rfl, Fr.refl _ _⟩
  case round =>
    obtain ⟨j, y, hj, rfl, rfl, hf⟩ := hrel
    have F := Lib.hid hf
    clear hf
    have cP := (cells_of (F.out.at_ HB.out (fun x => x)) 14).1
    simp only [List.getElem?_toArray, List.getElem?_cons_zero, List.getElem?_cons_succ] at cP
    by_cases hlt : j < l.length
    · have hki : (j : Int) < (l.length : Int) := by omega
      have hk0 : (0 : Int) ≤ (j : Int) := by omega
      by_cases hy : y ≤ 60000
      · obtain ⟨b, o, rfl, hb1, hb2, h4⟩ := HR.out (by omega)
        obtain ⟨pl, hcs, -, -⟩ := h4 j l[j] (List.getElem?_eq_getElem hlt)
        clear h4
        generalize l[j] = q at hcs
        obtain ⟨⟨k1, x1, s1, t1, path1, data1, fl1, ve1, wa1, so1, la1, ti1, fr1, ms1⟩, np⟩ := q
        obtain ⟨A1, c1, B1, d1, P1, e1⟩ := pl
        have FW : Hid (Fr NoB w wr) := F0.out.then F.out
        have q4 := (FW.out.cell (p := ⟨b, o + j * 15 + 4, none⟩) (by simp only; omega) (fun x => x)).trans (hcs 4 _ rfl)
        have q5 := (FW.out.cell (p := ⟨b, o + j * 15 + 5, none⟩) (by simp only; omega) (fun x => x)).trans (hcs 5 _ rfl)
        have q13 := (FW.out.cell (p := ⟨b, o + j * 15 + 13, none⟩) (by simp only; omega) (fun x => x)).trans (hcs 13 _ rfl)
        have q14 := (FW.out.cell (p := ⟨b, o + j * 15 + 14, none⟩) (by simp only; omega) (fun x => x)).trans (hcs 14 _ rfl)
        clear hcs HR
        have HQ : ∀ W, Fr NoB wr W → W.cell? ⟨N, 14, none⟩ = some (.slice (some ⟨b, o, none⟩) l.length e') ∧ W.cell? ⟨b, o + j * 15 + 4, none⟩ = some (.string ⟨path1.toArray⟩) ∧ W.cell? ⟨b, o + j * 15 + 5, none⟩ = some (.slice A1 data1.length c1) ∧ W.cell? ⟨b, o + j * 15 + 13, none⟩ = some (.slice B1 ms1.length d1) ∧ W.cell? ⟨b, o + j * 15 + 14, none⟩ = some (.slice P1 np e1) := fun W G =>
          ⟨(G.cell (p := ⟨N, 14, none⟩) (World.block_lt_of_cell? _ _ cP) (fun x => x)).trans cP, (G.cell (p := ⟨b, o + j * 15 + 4, none⟩) (World.block_lt_of_cell? _ _ q4) (fun x => x)).trans q4, (G.cell (p := ⟨b, o + j * 15 + 5, none⟩) (World.block_lt_of_cell? _ _ q5) (fun x => x)).trans q5, (G.cell (p := ⟨b, o + j * 15 + 13, none⟩) (World.block_lt_of_cell? _ _ q13) (fun x => x)).trans q13, (G.cell (p := ⟨b, o + j * 15 + 14, none⟩) (World.block_lt_of_cell? _ _ q14) (fun x => x)).trans q14⟩
        have HQH := Lib.hid HQ
        clear HQ
        go_wp2
        go_region_held3 (fun W => W.cell? ⟨N, 14, none⟩ = some (.slice (some ⟨b, o, none⟩) l.length e') ∧ W.cell? ⟨b, o + j * 15 + 4, none⟩ = some (.string ⟨path1.toArray⟩) ∧ W.cell? ⟨b, o + j * 15 + 5, none⟩ = some (.slice A1 data1.length c1) ∧ W.cell? ⟨b, o + j * 15 + 13, none⟩ = some (.slice B1 ms1.length d1) ∧ W.cell? ⟨b, o + j * 15 + 14, none⟩ = some (.slice P1 np e1)) (first | with_reducible exact HQH.out _ ((Fr.refl NoB wr).drew)) (fail)
        all_goals
          go_wp2
          go_roundw
          case rel => exact ⟨j + 1, _, by omega, rfl, by go_num, F.out.drew⟩
          case measure => simp [intOf]; omega
      · clear HR
        go_wp2
        all_goals (go_ret; exact ⟨⟨_, rfl⟩, F0.out.then F.out⟩)
    · clear HR
      go_wp2
      all_goals (go_ret; exact ⟨⟨_, rfl⟩, F0.out.then F.out⟩)
set_option maxRecDepth 8000 in
set_option maxHeartbeats 6400000 in
theorem wide_calls (f : Fy) (p : Py) (l : List (Fy × Nat)) (lo hi : Nat) (w : World) (h : RdPy w lo hi p.P l) (hh : hi ≤ w.heap.size) (hl : l.length ≤ 140737488355328) :
    Calls Tryd.prog 14 #[yval f p l.length] w fun e w' => IsBool e ∧ Fr NoB w w' := by
  have HR := Lib.hid h
  clear h
  obtain ⟨k, hd, path, data, st, ls, ver, ms⟩ := f
  obtain ⟨A, c, L, n, B, d, P, e'⟩ := p
  simp only at HR
  simp only [yval, ycells]
  generalize hd.getD 0 0 = h0
  generalize hd.getD 1 0 = h1
  generalize hd.getD 2 0 = h2
  generalize hd.getD 3 0 = h3
  generalize hd.getD 4 0 = h4
  generalize st.getD 0 0 = z0
  generalize st.getD 1 0 = z1
  generalize st.getD 2 0 = z2
  generalize st.getD 3 0 = z3
  generalize st.getD 4 0 = z4
  generalize st.getD 5 0 = z5
  generalize st.getD 6 0 = z6
  generalize st.getD 7 0 = z7
  generalize st.getD 8 0 = z8
  generalize st.getD 9 0 = z9
  go_enter Tryd.func14, Tryd.ntmps14
  go_wp2
  have F0 := Lib.hid ((Fr.refl NoB w).alloc (.cells #[.int .u8 k, .int .i64 h0, .int .i64 h1, .int .i64 h2, .int .i64 h3, .int .i64 h4, .string ⟨path.toArray⟩, .slice A data.length c, .int .i64 z0, .int .i64 z1, .int .i64 z2, .int .i64 z3, .int .i64 z4, .int .i64 z5, .int .i64 z6, .int .i64 z7, .int .i64 z8, .int .i64 z9, .slice L ls.length n, .int .i64 ver, .slice B ms.length d, .slice P l.length e'] 43))
  have HB := Lib.hid (heap_alloc_new w (.cells #[.int .u8 k, .int .i64 h0, .int .i64 h1, .int .i64 h2, .int .i64 h3, .int .i64 h4, .string ⟨path.toArray⟩, .slice A data.length c, .int .i64 z0, .int .i64 z1, .int .i64 z2, .int .i64 z3, .int .i64 z4, .int .i64 z5, .int .i64 z6, .int .i64 z7, .int .i64 z8, .int .i64 z9, .slice L ls.length n, .int .i64 ver, .slice B ms.length d, .slice P l.length e'] 43))
  generalize w.alloc (.cells #[.int .u8 k, .int .i64 h0, .int .i64 h1, .int .i64 h2, .int .i64 h3, .int .i64 h4, .string ⟨path.toArray⟩, .slice A data.length c, .int .i64 z0, .int .i64 z1, .int .i64 z2, .int .i64 z3, .int .i64 z4, .int .i64 z5, .int .i64 z6, .int .i64 z7, .int .i64 z8, .int .i64 z9, .slice L ls.length n, .int .i64 ver, .slice B ms.length d, .slice P l.length e'] 43) = wb at F0 HB ⊢
  generalize w.heap.size = N at HB ⊢
  go_loopw [3, 4] (fun n i W => ∃ (j : Nat) (y : Int), j ≤ l.length ∧ n = .int .i64 y ∧ i = .int .i64 (j : Int) ∧ Fr NoB wb W) (fun _ i _ => l.length - (intOf i).toNat)
  case atStart => exact ⟨0, _, Nat.zero_le _, rfl, rfl, Fr.refl _ _⟩
  case round =>
    obtain ⟨j, y, hj, rfl, rfl, hf⟩ := hrel
    have F := Lib.hid hf
    clear hf
    have cP := (cells_of (F.out.at_ HB.out (fun x => x)) 21).1
    simp only [List.getElem?_toArray, List.getElem?_cons_zero, List.getElem?_cons_succ] at cP
    by_cases hlt : j < l.length
    · have hki : (j : Int) < (l.length : Int) := by omega
      have hk0 : (0 : Int) ≤ (j : Int) := by omega
      by_cases hy : y ≤ 3000
      · obtain ⟨b, o, rfl, hb1, hb2, h4⟩ := HR.out (by omega)
        obtain ⟨pl, hcs, -, -, -⟩ := h4 j l[j] (List.getElem?_eq_getElem hlt)
        clear h4
        generalize l[j] = q at hcs
        obtain ⟨⟨k1, hd1, path1, data1, st1, ls1, ver1, ms1⟩, np⟩ := q
        obtain ⟨A1, c1, L1, n1, B1, d1, P1, e1⟩ := pl
        have FW : Hid (Fr NoB w wr) := F0.out.then F.out
        have q7 := (FW.out.cell (p := ⟨b, o + j * 22 + 7, none⟩) (by simp only; omega) (fun x => x)).trans (hcs 7 _ rfl)
        have q18 := (FW.out.cell (p := ⟨b, o + j * 22 + 18, none⟩) (by simp only; omega) (fun x => x)).trans (hcs 18 _ rfl)
        have q21 := (FW.out.cell (p := ⟨b, o + j * 22 + 21, none⟩) (by simp only; omega) (fun x => x)).trans (hcs 21 _ rfl)
        clear hcs HR
        have HQ : ∀ W, Fr NoB wr W → W.cell? ⟨N, 21, none⟩ = some (.slice (some ⟨b, o, none⟩) l.length e') ∧ W.cell? ⟨b, o + j * 22 + 7, none⟩ = some (.slice A1 data1.length c1) ∧ W.cell? ⟨b, o + j * 22 + 18, none⟩ = some (.slice L1 ls1.length n1) ∧ W.cell? ⟨b, o + j * 22 + 21, none⟩ = some (.slice P1 np e1) := fun W G =>
          ⟨(G.cell (p := ⟨N, 21, none⟩) (World.block_lt_of_cell? _ _ cP) (fun x => x)).trans cP, (G.cell (p := ⟨b, o + j * 22 + 7, none⟩) (World.block_lt_of_cell? _ _ q7) (fun x => x)).trans q7, (G.cell (p := ⟨b, o + j * 22 + 18, none⟩) (World.block_lt_of_cell? _ _ q18) (fun x => x)).trans q18, (G.cell (p := ⟨b, o + j * 22 + 21, none⟩) (World.block_lt_of_cell? _ _ q21) (fun x => x)).trans q21⟩
        have HQH := Lib.hid HQ
        clear HQ
        go_wp2
        go_region_held3 (fun W => W.cell? ⟨N, 21, none⟩ = some (.slice (some ⟨b, o, none⟩) l.length e') ∧ W.cell? ⟨b, o + j * 22 + 7, none⟩ = some (.slice A1 data1.length c1) ∧ W.cell? ⟨b, o + j * 22 + 18, none⟩ = some (.slice L1 ls1.length n1) ∧ W.cell? ⟨b, o + j * 22 + 21, none⟩ = some (.slice P1 np e1)) (first | with_reducible exact HQH.out _ ((Fr.refl NoB wr).drew)) (fail)
        all_goals
          go_wp2
          go_roundw
          case rel => exact ⟨j + 1, _, by omega, rfl, by go_num, F.out.drew⟩
          case measure => simp [intOf]; omega
      · clear HR
        go_wp2
        all_goals (go_ret; exact ⟨⟨_, rfl⟩, F0.out.then F.out⟩)
    · clear HR
      go_wp2
      all_goals (go_ret; exact ⟨⟨_, rfl⟩, F0.out.then F.out⟩)
end Go.Proofs.YtlckgkpgllhpbaaDoor
