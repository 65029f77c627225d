/-
  Dgr: great answers, of any deed.
-/
import Derived.Test.YtljioepkbbbibaaDoorDei
import Derived.Deep.RegionHeld3
namespace Go.Proofs.YtljioepkbbbibaaDoor
open Go.RowKit

/-- It answers a bool. -/
def IsBool (e : Ending) : Prop := ∃ g : Bool, e = .returned (.bool g)
set_option maxRecDepth 8000 in
set_option maxHeartbeats 6400000 in
theorem great_calls (f : Fd) (p : Pl) (l : List (Fd × Nat)) (lo hi : Nat) (w : World) (h : RdP w lo hi p.P l) (hh : hi ≤ w.heap.size) (hl : l.length ≤ 140737488355328) (hf : f.Ok) (hok : ∀ q ∈ l, q.1.Ok ∧ q.2 ≤ 140737488355328) :
    Calls Tryd.prog 9 #[dval f p l.length] w fun e w' => IsBool e ∧ Fr NoB w w' := by
  have HR := Lib.hid h
  have HOK := Lib.hid hok
  have l1 := hf.path
  have l2 := hf.data
  clear h hok hf
  obtain ⟨z, k, s, t, x, m, path, data, ow, ve, cv, ti, er, cver, ms⟩ := f
  obtain ⟨A, c, B, d, P, e'⟩ := p
  simp only at HR l1 l2
  simp only [dval, dcells] at *
  go_enter Tryd.func9, Tryd.ntmps9
  go_wp2
  have F0 := Lib.hid ((Fr.refl NoB w).alloc (.cells #[.int .i64 z, .int .u8 k, .int .i64 s, .int .i64 t, .int .i64 x, .int .i64 m, .string ⟨path.toArray⟩, .slice A data.length c, .int .i64 ow, .int .i64 ve, .int .i64 cv, .int .i64 ti, .int .i64 er, .int .i64 cver, .slice B ms.length d, .slice P l.length e'] 31))
  have HB := Lib.hid (heap_alloc_new w (.cells #[.int .i64 z, .int .u8 k, .int .i64 s, .int .i64 t, .int .i64 x, .int .i64 m, .string ⟨path.toArray⟩, .slice A data.length c, .int .i64 ow, .int .i64 ve, .int .i64 cv, .int .i64 ti, .int .i64 er, .int .i64 cver, .slice B ms.length d, .slice P l.length e'] 31))
  generalize w.alloc (.cells #[.int .i64 z, .int .u8 k, .int .i64 s, .int .i64 t, .int .i64 x, .int .i64 m, .string ⟨path.toArray⟩, .slice A data.length c, .int .i64 ow, .int .i64 ve, .int .i64 cv, .int .i64 ti, .int .i64 er, .int .i64 cver, .slice B ms.length d, .slice P l.length e'] 31) = wb at F0 HB ⊢
  generalize w.heap.size = N at HB ⊢
  go_loopw [3, 4] (fun n i W => ∃ (j : Nat) (y : Int), (0 ≤ y ∧ y ≤ 1000000000000000) ∧ j ≤ l.length ∧ n = .int .i64 y ∧ i = .int .i64 (j : Int) ∧ Fr NoB wb W) (fun _ i _ => l.length - (intOf i).toNat)
  case atStart => exact ⟨0, _, by omega, Nat.zero_le _, rfl, rfl, Fr.refl _ _⟩
  case round =>
    obtain ⟨j, y, hy0, hj, rfl, rfl, hf⟩ := hrel
    have F := Lib.hid hf
    clear hf
    have c13 := (cells_of (F.out.at_ HB.out (fun x => x)) 14).1
    have c15 := (cells_of (F.out.at_ HB.out (fun x => x)) 15).1
    simp only [List.getElem?_toArray, List.getElem?_cons_zero, List.getElem?_cons_succ] at c13 c15
    by_cases hlt : j < l.length
    · have hki : (j : Int) < (l.length : Int) := by omega
      have hk0 : (0 : Int) ≤ (j : Int) := by omega
      by_cases hy : y < 200000
      · obtain ⟨b, o, rfl, hb1, hb2, h4⟩ := HR.out (by omega)
        obtain ⟨pl, hcs, -, -⟩ := h4 j l[j] (List.getElem?_eq_getElem hlt)
        clear h4
        have hqo := HOK.out l[j] (List.getElem_mem hlt)
        generalize l[j] = q at hcs hqo
        obtain ⟨⟨z1, k1, s1, t1, x1, m1, path1, data1, ow1, ve1, cv1, ti1, er1, cver1, ms1⟩, np⟩ := q
        obtain ⟨A1, c1, B1, d1, P1, e1⟩ := pl
        have m1 := hqo.1.path
        have m2 := hqo.1.data
        have m3 := hqo.2
        simp only at m1 m2 m3
        clear hqo
        have FW : Hid (Fr NoB w wr) := F0.out.then F.out
        have q6 := (FW.out.cell (p := ⟨b, o + j * 16 + 6, none⟩) (by simp only; omega) (fun x => x)).trans (hcs 6 _ rfl)
        have q7 := (FW.out.cell (p := ⟨b, o + j * 16 + 7, none⟩) (by simp only; omega) (fun x => x)).trans (hcs 7 _ rfl)
        have q15 := (FW.out.cell (p := ⟨b, o + j * 16 + 15, none⟩) (by simp only; omega) (fun x => x)).trans (hcs 15 _ rfl)
        clear hcs HR HOK
        have HQ : ∀ W, Fr NoB wr W → W.cell? ⟨N, 15, none⟩ = some (.slice (some ⟨b, o, none⟩) l.length e') ∧ W.cell? ⟨b, o + j * 16 + 6, none⟩ = some (.string ⟨path1.toArray⟩) ∧ W.cell? ⟨b, o + j * 16 + 7, none⟩ = some (.slice A1 data1.length c1) ∧ W.cell? ⟨b, o + j * 16 + 15, none⟩ = some (.slice P1 np e1) := fun W G =>
          ⟨(G.cell (p := ⟨N, 15, none⟩) (World.block_lt_of_cell? _ _ c15) (fun x => x)).trans c15, (G.cell (p := ⟨b, o + j * 16 + 6, none⟩) (World.block_lt_of_cell? _ _ q6) (fun x => x)).trans q6, (G.cell (p := ⟨b, o + j * 16 + 7, none⟩) (World.block_lt_of_cell? _ _ q7) (fun x => x)).trans q7, (G.cell (p := ⟨b, o + j * 16 + 15, none⟩) (World.block_lt_of_cell? _ _ q15) (fun x => x)).trans q15⟩
        have HQH := Lib.hid HQ
        clear HQ
        go_wp2
        go_region_held3 (fun W => W.cell? ⟨N, 15, none⟩ = some (.slice (some ⟨b, o, none⟩) l.length e') ∧ W.cell? ⟨b, o + j * 16 + 6, none⟩ = some (.string ⟨path1.toArray⟩) ∧ W.cell? ⟨b, o + j * 16 + 7, none⟩ = some (.slice A1 data1.length c1) ∧ W.cell? ⟨b, o + j * 16 + 15, none⟩ = some (.slice P1 np e1)) (first | with_reducible exact HQH.out _ ((Fr.refl NoB wr).drew)) (fail)
        have HS1 : IntKind.i64.wrap (y + (data1.length : Int)) = y + data1.length := by rw [IntKind.wrap_i64]; omega
        have HS2 : IntKind.i64.wrap (y + (data1.length : Int) + (path1.length : Int)) = y + data1.length + path1.length := by rw [IntKind.wrap_i64]; omega
        have HS3 : IntKind.i64.wrap (y + (data1.length : Int) + (path1.length : Int) + (np : Int)) = y + data1.length + path1.length + np := by rw [IntKind.wrap_i64]; omega
        all_goals
          go_wp2
          go_roundw
          case rel => exact ⟨j + 1, _, by rw [HS1, HS2, HS3]; omega, by omega, rfl, by go_num, F.out.drew⟩
          case measure => simp [intOf]; omega
      · clear HR HOK
        go_wp2
        all_goals (go_ret; exact ⟨⟨_, rfl⟩, F0.out.then F.out⟩)
    · clear HR HOK
      go_wp2
      all_goals (go_ret; exact ⟨⟨_, rfl⟩, F0.out.then F.out⟩)
end Go.Proofs.YtljioepkbbbibaaDoor
