/-
  Ntu: the document's Links: the walk.
-/
import Derived.Test.YtmgkenbfjlahpaaNtt
namespace Go.Proofs.Ytmgkenbfjlahpaa
open Go.RowKit Go.WideMaps Go.Sort

set_option maxRecDepth 8000 in
set_option maxHeartbeats 6400000 in
theorem rlinks_calls {w : World} {p : Nat} {L : List (Lk × List UInt8)} {O : Nat → Prop} (h : RW w p L O) (hl : L.length ≤ 1000000000) :
    Calls Try.prog 25 #[.pointer (some ⟨p, 0, none⟩)] w fun e w' => ∃ A c, e = .returned (.slice A (linksL L).length c) ∧ RdK w' A (linksL L) ∧ Fr NoB w w' := by
  obtain ⟨v, V, h1, rfl⟩ := h
  rw [bytesV_len] at hl
  rw [links_bytes]
  obtain ⟨i0, hi0, hz0, hz1, hz2⟩ := info_parts info_lk
  obtain ⟨A, c, rfl, -, -⟩ := nown_form4 h1.row
  have hc := h1.cell
  have hpl : p < w.heap.size := Lib.lt_of_heap h1.box
  have H := Lib.hid h1
  clear h1
  go_enter Try.func25, Try.ntmps25
  go_wp2
  go_loopw [3, 4] (fun s i W => ∃ j : Nat, j ≤ V.length ∧ i = .int .i64 (j : Int) ∧ W.ownsRow w.heap.size 52 2 s (linksL (V.take j)).length (kcs (linksL (V.take j))) ∧ (linksL (V.take j) = [] → s = .slice none 0 0) ∧ Fr NoB w W) (fun _ i _ => V.length - (intOf i).toNat)
  case atStart => exact ⟨0, Nat.zero_le _, rfl, World.ownsRow_nil _ _ _ _, fun _ => rfl, Fr.refl _ _⟩
  case round =>
    obtain ⟨j, hj, rfl, ho, hnil, hf⟩ := hrel
    have HNIL := Lib.hid hnil
    clear hnil
    have F := Lib.hid hf
    have hcw := (hf.cell (p := ⟨p, 0, none⟩) hpl (fun x => x)).trans hc
    obtain ⟨A3, c3, rfl, hc3, hc3m⟩ := nown_form4 ho
    have O3 := Lib.hid ho
    clear ho hf
    by_cases hlt : j < V.length
    · have hji : (j : Int) < (V.length : Int) := by omega
      have hj0 : (0 : Int) ≤ (j : Int) := by omega
      obtain ⟨g, c', hv⟩ := own_some H.out.row (by omega)
      cases hv
      have hgl : g < w.heap.size := (H.out.row.lt g rfl).2
      obtain ⟨⟨⟨x1, x2⟩, xp⟩, hx⟩ : ∃ x, V[j] = x := ⟨_, rfl⟩
      have hgx : V[j]? = some ((x1, x2), xp) := by rw [List.getElem?_eq_getElem hlt, hx]
      obtain ⟨k0, k1, -⟩ := H.out.at_ hgx
      have hst : linksL (V.take (j + 1)) = putK (x1, x2) (linksL (V.take j)) := by rw [List.take_succ_eq_append_getElem hlt, hx, links_snoc]
      have hln : (linksL (V.take j)).length ≤ j := Nat.le_trans (links_len _) (by rw [List.length_take]; omega)
      simp only at k0 k1
      have hS := Lib.hid (fun W (G : Fr NoB w W) => (show W.cell? ⟨p, 0, none⟩ = some (.slice (some ⟨g, 0, none⟩) V.length c) ∧ W.cell? ⟨g, j * 3, none⟩ = some (.int .i64 x1) ∧ W.cell? ⟨g, j * 3 + 1, none⟩ = some (.int .i64 x2) from ⟨(G.cell (p := ⟨p, 0, none⟩) hpl (fun x => x)).trans hc, (G.cell (p := ⟨g, j * 3, none⟩) hgl (fun x => x)).trans k0, (G.cell (p := ⟨g, j * 3 + 1, none⟩) hgl (fun x => x)).trans k1⟩))
      obtain ⟨ks, hks⟩ : ∃ ks, linksL (V.take j) = ks := ⟨_, rfl⟩
      rw [hks] at hst hln O3 hc3 HNIL ⊢
      have hj9 : j + 1 ≤ V.length := hlt
      have hj9b : j < 1000000000 := Nat.lt_of_lt_of_le hlt hl
      have HST := Lib.hid hst
      clear k0 k1 hx hgx hks hst hl
      go_wp2
      go_region_held3 (fun W => W.cell? ⟨p, 0, none⟩ = some (.slice (some ⟨g, 0, none⟩) V.length c) ∧ W.cell? ⟨g, j * 3, none⟩ = some (.int .i64 x1) ∧ W.cell? ⟨g, j * 3 + 1, none⟩ = some (.int .i64 x2)) (first
        | with_reducible exact hS.out _ (F.out.drew)
        | with_reducible exact hS.out _ ((F.out.drew).alloc _)
        | with_reducible exact hS.out _ ((F.out.alloc _).drew)) (fail)
      have HB0 : (wr.alloc (.cells #[.int .i64 x1, .int .i64 x2] 52)).drew.heap[wr.heap.size]? = some (.cells #[.int .i64 x1, .int .i64 x2] 52 (0, 0)) := heap_alloc_new wr _
      have HBX := Lib.hid HB0
      have F5 := Lib.hid ((F.out.alloc (.cells #[.int .i64 x1, .int .i64 x2] 52)).drew)
      have O5 := Lib.hid (own_step O3.out (((Fr.refl NoB wr).alloc (.cells #[.int .i64 x1, .int .i64 x2] 52)).drew))
      have hBw := F.out.size
      clear HB0 hcw
      generalize (wr.alloc (.cells #[.int .i64 x1, .int .i64 x2] 52)).drew = w5 at HBX F5 O5 ⊢
      obtain ⟨B, hB⟩ : ∃ B, wr.heap.size = B := ⟨_, rfl⟩
      rw [hB] at HBX hBw ⊢
      clear hB O3 F
      have hb0 : ∀ q, (w5.drewN q).cell? ⟨B, 0, none⟩ = some (.int .i64 x1) := fun q => (Lib.cell_of_heap HBX.out 0)
      have hb1 : ∀ q, (w5.drewN q).cell? ⟨B, 1, none⟩ = some (.int .i64 x2) := fun q => (Lib.cell_of_heap HBX.out 1)
      go_wp2
      go_loopw [6] (fun s W => ∃ t n : Nat, t ≤ ks.length ∧ s = .int .i64 (t : Int) ∧ (∀ i y, i < t → ks[i]? = some y → ltK y (x1, x2) = true) ∧ W = w5.drewN n) (fun s _ => ks.length - (intOf s).toNat)
      case atStart => exact ⟨0, 0, Nat.zero_le _, rfl, fun i y h => absurd h (Nat.not_lt_zero _), rfl⟩
      case round =>
        obtain ⟨t, n, ht, rfl, hall, rfl⟩ := hrel
        have hb0n := hb0 n
        have hb1n := hb1 n
        have hb0nn := fun q => hb0 (n + q)
        have hb1nn := fun q => hb1 (n + q)
        have ht0 : (0 : Int) ≤ (t : Int) := by omega
        have htj : t < 1000000000 := by omega
        by_cases hlt2 : t < ks.length
        · have hti : (t : Int) < (ks.length : Int) := by omega
          have hdt : decide ((t : Int) < (ks.length : Int)) = true := decide_eq_true hti
          obtain ⟨gk, ck, hvk⟩ := own_some O5.out (by omega)
          cases hvk
          obtain ⟨_, _, e, hgk, hck⟩ := RdK.own O5.out (by omega)
          cases e
          obtain ⟨hy0, hy1⟩ := hck t hlt2
          have hyt : ks[t]? = some (ks.getD t (0, 0)) := by rw [List.getElem?_eq_getElem hlt2]; simp [List.getD, hlt2]
          obtain ⟨⟨y1, y2⟩, hy⟩ : ∃ y, ks.getD t (0, 0) = y := ⟨_, rfl⟩
          rw [hy] at hy0 hy1 hyt
          simp only [Nat.zero_add] at hy0 hy1
          have hr0 : ∀ q, (w5.drewN q).cell? ⟨gk, t * 2, none⟩ = some (.int .i64 y1) := fun q => hy0
          have hr1 : ∀ q, (w5.drewN q).cell? ⟨gk, t * 2 + 1, none⟩ = some (.int .i64 y2) := fun q => hy1
          have hr0n := hr0 n
          have hr1n := hr1 n
          have HROW := Lib.hid (O5.out.cells (g := gk) rfl)
          have HYT := Lib.hid hyt
          have HALL := Lib.hid hall
          have hckt : ¬ c3 = t := by omega
          have hks9 : (t : Int) ≤ (c3 : Int) := by omega
          clear hck hy hyt hall hy0 hy1
          by_cases e1 : y1 < x1
          · have d1 : decide (y1 < x1) = true := decide_eq_true e1
            have hall2 : ∀ i y, i < t + 1 → ks[i]? = some y → ltK y (x1, x2) = true := fun i y hi hy => by
              by_cases hit : i = t
              · subst hit
                rw [HYT.out] at hy
                cases hy
                rw [lt_row]
                simp_all
              · exact HALL.out i y (by omega) hy
            have HALL2 := Lib.hid hall2
            clear hall2
            go_wp2
            go_quiet (fail)
            go_wp2
            go_roundw
            case rel => exact ⟨t + 1, n + nq, by omega, by go_num, HALL2.out, by simp⟩
            case measure => simp [intOf]; omega
          · have d1 : decide (y1 < x1) = false := decide_eq_false e1
            by_cases e2 : y1 = x1
            · have d2 : (y1 == x1) = true := by rw [beq_iff_eq]; exact e2
              by_cases e3 : y2 < x2
              · have d3 : decide (y2 < x2) = true := decide_eq_true e3
                have hall2 : ∀ i y, i < t + 1 → ks[i]? = some y → ltK y (x1, x2) = true := fun i y hi hy => by
                  by_cases hit : i = t
                  · subst hit
                    rw [HYT.out] at hy
                    cases hy
                    rw [lt_row]
                    simp_all
                  · exact HALL.out i y (by omega) hy
                have HALL2 := Lib.hid hall2
                clear hall2
                go_wp2
                go_quiet (fail)
                go_wp2
                go_roundw
                case rel => exact ⟨t + 1, n + nq, by omega, by go_num, HALL2.out, by simp⟩
                case measure => simp [intOf]; omega
              · have d3 : decide (y2 < x2) = false := decide_eq_false e3
                have hlow : lowN (x1, x2) ks = t := low_is ht HALL.out (fun y hy => by rw [HYT.out] at hy; cases hy; rw [lt_row, d1, d3]; simp)
                have HLOW := Lib.hid hlow
                clear hlow
                have HLE := Lib.hid ht
                have HKL := Lib.hid (Nat.lt_of_le_of_lt hln hj9b)
                have hcl := not_lt_cast (Nat.le_trans ht hc3)
                go_wp2
                go_quiet (fail)
                have F6 := Lib.hid (show Fr NoB w ((w5.drewN n).drewN nq) from ((F5.out.drewN n).drewN nq))
                have HROW6 := Lib.hid (show ∀ (j : Nat) (u : Value), (kcs ks)[j]? = some u → ((w5.drewN n).drewN nq).cell? ((⟨gk, 0, none⟩ : Addr).add j) = some u from HROW.out)
                have HGK6 := Lib.hid (show gk < ((w5.drewN n).drewN nq).heap.size from hgk)
                have hr06 : ∀ q, (((w5.drewN n).drewN nq).drewN q).cell? ⟨gk, t * 2, none⟩ = some (.int .i64 y1) := fun q => hr0 q
                have hr16 : ∀ q, (((w5.drewN n).drewN nq).drewN q).cell? ⟨gk, t * 2 + 1, none⟩ = some (.int .i64 y2) := fun q => hr1 q
                have hr06n := hr06 0
                have hr16n := hr16 0
                have hb06 : ∀ q, (((w5.drewN n).drewN nq).drewN q).cell? ⟨B, 0, none⟩ = some (.int .i64 x1) := fun q => hb0 q
                have hb16 : ∀ q, (((w5.drewN n).drewN nq).drewN q).cell? ⟨B, 1, none⟩ = some (.int .i64 x2) := fun q => hb1 q
                have O6 := Lib.hid (own_step O5.out (((Fr.refl NoB w5).drewN n).drewN nq))
                clear HALL hgk HROW hr0n hr1n hr0 hr1 hb0n hb1n hb0nn hb1nn hb0 hb1 d1
                try clear d2
                try clear d3
                try clear e3
                clear e2 e1
                generalize (w5.drewN n).drewN nq = w6 at F6 HROW6 HGK6 hr06 hr16 hr06n hr16n hb06 hb16 O6 ⊢
                clear F5 O5 HBX
                simp only [World.drewN_zero] at hr06n hr16n
                have hq9 := fun W => lk_eql y1 y2 x1 x2 W
                by_cases hxy : (y1, y2) = (x1, x2)
                · rw [show ((y1, y2) == (x1, x2)) = true by rw [beq_iff_eq]; exact hxy] at hq9
                  rw [hxy] at HYT
                  clear hxy
                  go_wp2
                  go_quiet (fail)
                  go_wp2
                  go_roundw
                  case rel => exact ⟨j + 1, hj9, by go_num, by rw [HST.out, putK_same HLOW.out HYT.out]; exact own_step O6.out ((Fr.refl NoB w6).drewN nq), fun h0 => absurd (((HST.out.trans (putK_same HLOW.out HYT.out)).symm.trans h0) : ks = []) (fun e => by rw [e] at hlt2; exact absurd hlt2 (Nat.not_lt_zero _)), F6.out.drewN nq⟩
                  case measure => simp [intOf]; omega
                · rw [show ((y1, y2) == (x1, x2)) = false by rw [beq_eq_false_iff_ne]; exact hxy] at hq9
                  have hins := putK_ins HLOW.out (by rw [HYT.out]; intro e; exact hxy (Option.some.inj e))
                  have HINS := Lib.hid (HST.out.trans hins)
                  clear hxy hins HYT HLOW HST
                  go_wp2
                  go_quiet (fail)
                  clear hr06 hr16 hr06n hr16n O6 hq9
                  have F7 := Lib.hid (F6.out.drewN nq)
                  have hb07 := hb06 nq
                  have hb17 := hb16 nq
                  have hb08 := Lib.hid (fun (W : World) (G : Fr NoB (w6.drewN nq) W) => (G.cell (p := ⟨B, 0, none⟩) (World.block_lt_of_cell? _ _ hb07) (fun x => x)).trans hb07)
                  have hb18 := Lib.hid (fun (W : World) (G : Fr NoB (w6.drewN nq) W) => (G.cell (p := ⟨B, 1, none⟩) (World.block_lt_of_cell? _ _ hb17) (fun x => x)).trans hb17)
                  clear F6 hb06 hb16 hb07 hb17
                  have HROW7 := Lib.hid (show ∀ (j : Nat) (u : Value), (kcs ks)[j]? = some u → (w6.drewN nq).cell? ((⟨gk, 0, none⟩ : Addr).add j) = some u from HROW6.out)
                  have HGK7 := Lib.hid (show gk < (w6.drewN nq).heap.size from HGK6.out)
                  clear HROW6 HGK6
                  generalize w6.drewN nq = w7 at HROW7 HGK7 F7 hb08 hb18 ⊢
                  have HL1 := Lib.hid (kcs_take_len HLE.out)
                  have HL2 := Lib.hid (kcs_drop_len (V := ks) t)
                  have HBD := Lib.hid (bdk HLE.out HKL.out)
                  have ht00 : ¬ (t : Int) < 0 := Int.not_lt.2 (Int.natCast_nonneg t)
                  have hdt0 : decide ((t : Int) < 0) = false := decide_eq_false ht00
                  have htl := not_lt_cast HLE.out
                  go_wp2_with (first | (at_builtin; refine wpList_append_src _ rfl _ _ 44 rfl w7.heap.size 52 i0 (.agg #[.int .i64 0, .int .i64 0]) 2 16 Try.underlying44 hi0 hz0 hz1 hz2 rfl (by decide) (.slice none 0 0) 0 [] rfl (World.ownsRow_nil _ _ _ _) _ t _ (kcs (ks.take t)) rfl HL1.out (fun _ => ⟨_, rfl, ksrc_take (Fr.refl NoB w7) HGK7.out HROW7.out t⟩) (kcs_one _) HBD.out.1.1 HBD.out.1.2 (Nat.le_refl _) ?_; intro v1 W1 hA1; have f1 : Fr NoB w7 W1 := hA1.fr.mono (fun _ _ h => by simp [Value.ownBlock] at h); have hb0n := hb08.out W1 f1; have hb1n := hb18.out W1 f1; have o1 := hA1.own; rw [Nat.zero_add, List.nil_append] at o1; obtain ⟨A1, c1, rfl, -, -⟩ := nown_form4 o1; have F1 := Lib.hid (f1.alloc (.cells #[.int .i64 x1, .int .i64 x2] 52)); have O1 := Lib.hid (o1.alloc (.cells #[.int .i64 x1, .int .i64 x2] 52)); have NB := Lib.hid (World.news_of_block (heap_alloc_new W1 (.cells #[.int .i64 x1, .int .i64 x2] 52))); clear hA1 f1 o1) | (at_builtin; refine wpList_append_src _ rfl _ _ 44 rfl w7.heap.size 52 i0 (.agg #[.int .i64 0, .int .i64 0]) 2 16 Try.underlying44 hi0 hz0 hz1 hz2 rfl (by decide) (.slice A1 t c1) t (kcs (ks.take t)) rfl O1.out _ 1 _ (kc (x1, x2)) rfl rfl (fun _ => ⟨_, rfl, NB.out⟩) (kc_one _) HBD.out.2.1.1 HBD.out.2.1.2 F1.out.size ?_; intro v2 W2 hA2; have f2 : Fr NoB w7 W2 := F1.out.trans hA2.fr (fun k hk hx => absurd (O1.out.lt k hx).1 (Nat.not_le.2 hk)); have o2 := hA2.own; obtain ⟨A2, c2, rfl, -, -⟩ := nown_form4 o2; have F2 := Lib.hid f2; have O2 := Lib.hid o2; clear hA2 f2 o2) | (at_builtin; refine wpList_append_src _ rfl _ _ 44 rfl w7.heap.size 52 i0 (.agg #[.int .i64 0, .int .i64 0]) 2 16 Try.underlying44 hi0 hz0 hz1 hz2 rfl (by decide) (.slice A2 (t + 1) c2) (t + 1) (kcs (ks.take t) ++ kc (x1, x2)) rfl O2.out _ (ks.length - t) _ (kcs (ks.drop t)) rfl HL2.out (fun _ => ⟨_, rfl, ksrc_drop F2.out HGK7.out HROW7.out t⟩) (kcs_one _) HBD.out.2.2.1 HBD.out.2.2.2 F2.out.size ?_; intro v3 W3 hA3; have f3 : Fr NoB w7 W3 := F2.out.trans hA3.fr (fun k hk hx => absurd (O2.out.lt k hx).1 (Nat.not_le.2 hk)); have F3 := Lib.hid (F7.out.trans f3 (fun k hk hx => absurd hx (fun x => x))); have O3 := Lib.hid (nown_base hA3.own F7.out.size); clear hA3 f3) | fail)
                  go_roundw
                  case rel =>
                    refine ⟨j + 1, hj9, by go_num, ?_, fun h0 => absurd (HINS.out.symm.trans h0) (by simp), F3.out⟩
                    rw [HINS.out, kcs_append, kcs_append, List.length_append, List.length_append]
                    rw [List.length_take, List.length_drop, Nat.min_eq_left HLE.out]
                    exact O3.out
                  case measure => simp [intOf]; omega
            · have d2 : (y1 == x1) = false := by rw [beq_eq_false_iff_ne]; exact e2
              have hlow : lowN (x1, x2) ks = t := low_is ht HALL.out (fun y hy => by rw [HYT.out] at hy; cases hy; rw [lt_row, d1, decide_eq_false e2]; rfl)
              have HLOW := Lib.hid hlow
              clear hlow
              have HLE := Lib.hid ht
              have HKL := Lib.hid (Nat.lt_of_le_of_lt hln hj9b)
              have hcl := not_lt_cast (Nat.le_trans ht hc3)
              go_wp2
              go_quiet (fail)
              have F6 := Lib.hid (show Fr NoB w ((w5.drewN n).drewN nq) from ((F5.out.drewN n).drewN nq))
              have HROW6 := Lib.hid (show ∀ (j : Nat) (u : Value), (kcs ks)[j]? = some u → ((w5.drewN n).drewN nq).cell? ((⟨gk, 0, none⟩ : Addr).add j) = some u from HROW.out)
              have HGK6 := Lib.hid (show gk < ((w5.drewN n).drewN nq).heap.size from hgk)
              have hr06 : ∀ q, (((w5.drewN n).drewN nq).drewN q).cell? ⟨gk, t * 2, none⟩ = some (.int .i64 y1) := fun q => hr0 q
              have hr16 : ∀ q, (((w5.drewN n).drewN nq).drewN q).cell? ⟨gk, t * 2 + 1, none⟩ = some (.int .i64 y2) := fun q => hr1 q
              have hr06n := hr06 0
              have hr16n := hr16 0
              have hb06 : ∀ q, (((w5.drewN n).drewN nq).drewN q).cell? ⟨B, 0, none⟩ = some (.int .i64 x1) := fun q => hb0 q
              have hb16 : ∀ q, (((w5.drewN n).drewN nq).drewN q).cell? ⟨B, 1, none⟩ = some (.int .i64 x2) := fun q => hb1 q
              have O6 := Lib.hid (own_step O5.out (((Fr.refl NoB w5).drewN n).drewN nq))
              clear HALL hgk HROW hr0n hr1n hr0 hr1 hb0n hb1n hb0nn hb1nn hb0 hb1 d1
              try clear d2
              try clear d3
              try clear e3
              clear e2 e1
              generalize (w5.drewN n).drewN nq = w6 at F6 HROW6 HGK6 hr06 hr16 hr06n hr16n hb06 hb16 O6 ⊢
              clear F5 O5 HBX
              simp only [World.drewN_zero] at hr06n hr16n
              have hq9 := fun W => lk_eql y1 y2 x1 x2 W
              by_cases hxy : (y1, y2) = (x1, x2)
              · rw [show ((y1, y2) == (x1, x2)) = true by rw [beq_iff_eq]; exact hxy] at hq9
                rw [hxy] at HYT
                clear hxy
                go_wp2
                go_quiet (fail)
                go_wp2
                go_roundw
                case rel => exact ⟨j + 1, hj9, by go_num, by rw [HST.out, putK_same HLOW.out HYT.out]; exact own_step O6.out ((Fr.refl NoB w6).drewN nq), fun h0 => absurd (((HST.out.trans (putK_same HLOW.out HYT.out)).symm.trans h0) : ks = []) (fun e => by rw [e] at hlt2; exact absurd hlt2 (Nat.not_lt_zero _)), F6.out.drewN nq⟩
                case measure => simp [intOf]; omega
              · rw [show ((y1, y2) == (x1, x2)) = false by rw [beq_eq_false_iff_ne]; exact hxy] at hq9
                have hins := putK_ins HLOW.out (by rw [HYT.out]; intro e; exact hxy (Option.some.inj e))
                have HINS := Lib.hid (HST.out.trans hins)
                clear hxy hins HYT HLOW HST
                go_wp2
                go_quiet (fail)
                clear hr06 hr16 hr06n hr16n O6 hq9
                have F7 := Lib.hid (F6.out.drewN nq)
                have hb07 := hb06 nq
                have hb17 := hb16 nq
                have hb08 := Lib.hid (fun (W : World) (G : Fr NoB (w6.drewN nq) W) => (G.cell (p := ⟨B, 0, none⟩) (World.block_lt_of_cell? _ _ hb07) (fun x => x)).trans hb07)
                have hb18 := Lib.hid (fun (W : World) (G : Fr NoB (w6.drewN nq) W) => (G.cell (p := ⟨B, 1, none⟩) (World.block_lt_of_cell? _ _ hb17) (fun x => x)).trans hb17)
                clear F6 hb06 hb16 hb07 hb17
                have HROW7 := Lib.hid (show ∀ (j : Nat) (u : Value), (kcs ks)[j]? = some u → (w6.drewN nq).cell? ((⟨gk, 0, none⟩ : Addr).add j) = some u from HROW6.out)
                have HGK7 := Lib.hid (show gk < (w6.drewN nq).heap.size from HGK6.out)
                clear HROW6 HGK6
                generalize w6.drewN nq = w7 at HROW7 HGK7 F7 hb08 hb18 ⊢
                have HL1 := Lib.hid (kcs_take_len HLE.out)
                have HL2 := Lib.hid (kcs_drop_len (V := ks) t)
                have HBD := Lib.hid (bdk HLE.out HKL.out)
                have ht00 : ¬ (t : Int) < 0 := Int.not_lt.2 (Int.natCast_nonneg t)
                have hdt0 : decide ((t : Int) < 0) = false := decide_eq_false ht00
                have htl := not_lt_cast HLE.out
                go_wp2_with (first | (at_builtin; refine wpList_append_src _ rfl _ _ 44 rfl w7.heap.size 52 i0 (.agg #[.int .i64 0, .int .i64 0]) 2 16 Try.underlying44 hi0 hz0 hz1 hz2 rfl (by decide) (.slice none 0 0) 0 [] rfl (World.ownsRow_nil _ _ _ _) _ t _ (kcs (ks.take t)) rfl HL1.out (fun _ => ⟨_, rfl, ksrc_take (Fr.refl NoB w7) HGK7.out HROW7.out t⟩) (kcs_one _) HBD.out.1.1 HBD.out.1.2 (Nat.le_refl _) ?_; intro v1 W1 hA1; have f1 : Fr NoB w7 W1 := hA1.fr.mono (fun _ _ h => by simp [Value.ownBlock] at h); have hb0n := hb08.out W1 f1; have hb1n := hb18.out W1 f1; have o1 := hA1.own; rw [Nat.zero_add, List.nil_append] at o1; obtain ⟨A1, c1, rfl, -, -⟩ := nown_form4 o1; have F1 := Lib.hid (f1.alloc (.cells #[.int .i64 x1, .int .i64 x2] 52)); have O1 := Lib.hid (o1.alloc (.cells #[.int .i64 x1, .int .i64 x2] 52)); have NB := Lib.hid (World.news_of_block (heap_alloc_new W1 (.cells #[.int .i64 x1, .int .i64 x2] 52))); clear hA1 f1 o1) | (at_builtin; refine wpList_append_src _ rfl _ _ 44 rfl w7.heap.size 52 i0 (.agg #[.int .i64 0, .int .i64 0]) 2 16 Try.underlying44 hi0 hz0 hz1 hz2 rfl (by decide) (.slice A1 t c1) t (kcs (ks.take t)) rfl O1.out _ 1 _ (kc (x1, x2)) rfl rfl (fun _ => ⟨_, rfl, NB.out⟩) (kc_one _) HBD.out.2.1.1 HBD.out.2.1.2 F1.out.size ?_; intro v2 W2 hA2; have f2 : Fr NoB w7 W2 := F1.out.trans hA2.fr (fun k hk hx => absurd (O1.out.lt k hx).1 (Nat.not_le.2 hk)); have o2 := hA2.own; obtain ⟨A2, c2, rfl, -, -⟩ := nown_form4 o2; have F2 := Lib.hid f2; have O2 := Lib.hid o2; clear hA2 f2 o2) | (at_builtin; refine wpList_append_src _ rfl _ _ 44 rfl w7.heap.size 52 i0 (.agg #[.int .i64 0, .int .i64 0]) 2 16 Try.underlying44 hi0 hz0 hz1 hz2 rfl (by decide) (.slice A2 (t + 1) c2) (t + 1) (kcs (ks.take t) ++ kc (x1, x2)) rfl O2.out _ (ks.length - t) _ (kcs (ks.drop t)) rfl HL2.out (fun _ => ⟨_, rfl, ksrc_drop F2.out HGK7.out HROW7.out t⟩) (kcs_one _) HBD.out.2.2.1 HBD.out.2.2.2 F2.out.size ?_; intro v3 W3 hA3; have f3 : Fr NoB w7 W3 := F2.out.trans hA3.fr (fun k hk hx => absurd (O2.out.lt k hx).1 (Nat.not_le.2 hk)); have F3 := Lib.hid (F7.out.trans f3 (fun k hk hx => absurd hx (fun x => x))); have O3 := Lib.hid (nown_base hA3.own F7.out.size); clear hA3 f3) | fail)
                go_roundw
                case rel =>
                  refine ⟨j + 1, hj9, by go_num, ?_, fun h0 => absurd (HINS.out.symm.trans h0) (by simp), F3.out⟩
                  rw [HINS.out, kcs_append, kcs_append, List.length_append, List.length_append]
                  rw [List.length_take, List.length_drop, Nat.min_eq_left HLE.out]
                  exact O3.out
                case measure => simp [intOf]; omega
        · obtain rfl : t = ks.length := by omega
          have hti : ¬ (ks.length : Int) < (ks.length : Int) := by omega
          have hlow : lowN (x1, x2) ks = ks.length := low_is ht hall (fun y hy => by rw [List.getElem?_eq_none (Nat.le_refl _)] at hy; cases hy)
          have HINS := Lib.hid (HST.out.trans (putK_ins (t := ks.length) hlow (by rw [List.getElem?_eq_none (Nat.le_refl _)]; exact fun e => by cases e)))
          clear hlow hall HST
          by_cases hk0 : ks = []
          · subst hk0
            have hN := HNIL.out rfl
            cases hN
            clear HNIL O5
            have hti0 : decide (((0 : Nat) : Int) < ((0 : Nat) : Int)) = false := decide_eq_false (by omega)
            simp only [List.length_nil] at *
            go_wp2
            go_quiet (fail)
            have F6 := Lib.hid (show Fr NoB w ((w5.drewN n).drewN nq) from ((F5.out.drewN n).drewN nq))
            have hb06 : ∀ q, (((w5.drewN n).drewN nq).drewN q).cell? ⟨B, 0, none⟩ = some (.int .i64 x1) := fun q => hb0 q
            have hb16 : ∀ q, (((w5.drewN n).drewN nq).drewN q).cell? ⟨B, 1, none⟩ = some (.int .i64 x2) := fun q => hb1 q

            clear hb0n hb1n hb0nn hb1nn hb0 hb1
            generalize (w5.drewN n).drewN nq = w6 at F6 hb06 hb16 ⊢
            clear F5 HBX
            go_wp2
            go_quiet (fail)
            have F7 := Lib.hid (F6.out.drewN nq)
            have hb07 := hb06 nq
            have hb17 := hb16 nq
            have hb08 := Lib.hid (fun (W : World) (G : Fr NoB (w6.drewN nq) W) => (G.cell (p := ⟨B, 0, none⟩) (World.block_lt_of_cell? _ _ hb07) (fun x => x)).trans hb07)
            have hb18 := Lib.hid (fun (W : World) (G : Fr NoB (w6.drewN nq) W) => (G.cell (p := ⟨B, 1, none⟩) (World.block_lt_of_cell? _ _ hb17) (fun x => x)).trans hb17)
            clear F6 hb06 hb16 hb07 hb17
            generalize w6.drewN nq = w7 at F7 hb08 hb18 ⊢
            have HBD := Lib.hid (bdk (Nat.le_refl 0) (by omega : 0 < 1000000000))
            go_wp2_with (first | (at_builtin; refine wpList_append_src _ rfl _ _ 44 rfl w7.heap.size 52 i0 (.agg #[.int .i64 0, .int .i64 0]) 2 16 Try.underlying44 hi0 hz0 hz1 hz2 rfl (by decide) (.slice none 0 0) 0 [] rfl (World.ownsRow_nil _ _ _ _) _ 0 _ (kcs []) rfl rfl (fun h0 => absurd h0 (by omega)) (kcs_one _) HBD.out.1.1 HBD.out.1.2 (Nat.le_refl _) ?_; intro v1 W1 hA1; have f1 : Fr NoB w7 W1 := hA1.fr.mono (fun _ _ h => by simp [Value.ownBlock] at h); have hb0n := hb08.out W1 f1; have hb1n := hb18.out W1 f1; have o1 := hA1.own; rw [Nat.zero_add, List.nil_append] at o1; obtain ⟨A1, c1, rfl, -, -⟩ := nown_form4 o1; have F1 := Lib.hid (f1.alloc (.cells #[.int .i64 x1, .int .i64 x2] 52)); have O1 := Lib.hid (o1.alloc (.cells #[.int .i64 x1, .int .i64 x2] 52)); have NB := Lib.hid (World.news_of_block (heap_alloc_new W1 (.cells #[.int .i64 x1, .int .i64 x2] 52))); clear hA1 f1 o1) | (at_builtin; refine wpList_append_src _ rfl _ _ 44 rfl w7.heap.size 52 i0 (.agg #[.int .i64 0, .int .i64 0]) 2 16 Try.underlying44 hi0 hz0 hz1 hz2 rfl (by decide) (.slice A1 0 c1) 0 (kcs []) rfl O1.out _ 1 _ (kc (x1, x2)) rfl rfl (fun _ => ⟨_, rfl, NB.out⟩) (kc_one _) HBD.out.2.1.1 HBD.out.2.1.2 F1.out.size ?_; intro v2 W2 hA2; have f2 : Fr NoB w7 W2 := F1.out.trans hA2.fr (fun k hk hx => absurd (O1.out.lt k hx).1 (Nat.not_le.2 hk)); have o2 := hA2.own; obtain ⟨A2, c2, rfl, -, -⟩ := nown_form4 o2; have F2 := Lib.hid f2; have O2 := Lib.hid o2; clear hA2 f2 o2) | (at_builtin; refine wpList_append_src _ rfl _ _ 44 rfl w7.heap.size 52 i0 (.agg #[.int .i64 0, .int .i64 0]) 2 16 Try.underlying44 hi0 hz0 hz1 hz2 rfl (by decide) (.slice A2 (0 + 1) c2) (0 + 1) (kcs [] ++ kc (x1, x2)) rfl O2.out _ 0 _ (kcs []) rfl rfl (fun h0 => absurd h0 (by omega)) (kcs_one _) HBD.out.2.1.1 HBD.out.2.1.2 F2.out.size ?_; intro v3 W3 hA3; have f3 : Fr NoB w7 W3 := F2.out.trans hA3.fr (fun k hk hx => absurd (O2.out.lt k hx).1 (Nat.not_le.2 hk)); have F3 := Lib.hid (F7.out.trans f3 (fun k hk hx => absurd hx (fun x => x))); have O3 := Lib.hid (nown_base hA3.own F7.out.size); clear hA3 f3) | fail)
            go_roundw
            case rel =>
              refine ⟨j + 1, hj9, by go_num, ?_, fun h0 => absurd (HINS.out.symm.trans h0) (by simp), F3.out⟩
              rw [HINS.out, kcs_append, kcs_append, List.length_append, List.length_append]
              skip
              exact O3.out
            case measure => simp [intOf]; omega
          · obtain ⟨gk, ck, hvk⟩ := own_some O5.out (List.length_pos_iff.2 hk0)
            cases hvk
            obtain ⟨_, _, e, hgk, -⟩ := RdK.own O5.out (List.length_pos_iff.2 hk0)
            cases e
            have HROW := Lib.hid (O5.out.cells (g := gk) rfl)
            obtain ⟨t, hT⟩ : ∃ t, ks.length = t := ⟨_, rfl⟩
            have HINS2 := Lib.hid (show linksL (V.take (j + 1)) = ks.take t ++ [(x1, x2)] ++ [] by rw [← hT, HINS.out, List.drop_length])
            clear HINS
            have HINS := HINS2
            clear HINS2 hk0 HNIL O5
            have HLE := Lib.hid (Nat.le_of_eq hT.symm)
            have HKL := Lib.hid (Nat.lt_of_le_of_lt hln hj9b)
            have hlt3 : t ≤ c3 := by rw [← hT]; exact hc3
            simp only [hT]
            by_cases hcc : c3 = t
            · clear hc3 hc3m
              subst c3
              have hti : decide ((t : Int) < (t : Int)) = false := decide_eq_false (by omega)
              have hcl := not_lt_cast (Nat.le_refl t)
              clear hlt3 hT ht0 htj hln ht
              go_wp2
              go_quiet (fail)
              have F6 := Lib.hid (show Fr NoB w ((w5.drewN n).drewN nq) from ((F5.out.drewN n).drewN nq))
              have hb06 : ∀ q, (((w5.drewN n).drewN nq).drewN q).cell? ⟨B, 0, none⟩ = some (.int .i64 x1) := fun q => hb0 q
              have hb16 : ∀ q, (((w5.drewN n).drewN nq).drewN q).cell? ⟨B, 1, none⟩ = some (.int .i64 x2) := fun q => hb1 q
              have HROW6 := Lib.hid (show ∀ (j : Nat) (u : Value), (kcs ks)[j]? = some u → ((w5.drewN n).drewN nq).cell? ((⟨gk, 0, none⟩ : Addr).add j) = some u from HROW.out)
              have HGK6 := Lib.hid (show gk < ((w5.drewN n).drewN nq).heap.size from hgk)

              clear hb0n hb1n hb0nn hb1nn hb0 hb1 hgk HROW
              generalize (w5.drewN n).drewN nq = w6 at F6 hb06 hb16 HROW6 HGK6 ⊢
              clear F5 HBX
              go_wp2
              go_quiet (fail)
              have F7 := Lib.hid (F6.out.drewN nq)
              have hb07 := hb06 nq
              have hb17 := hb16 nq
              have hb08 := Lib.hid (fun (W : World) (G : Fr NoB (w6.drewN nq) W) => (G.cell (p := ⟨B, 0, none⟩) (World.block_lt_of_cell? _ _ hb07) (fun x => x)).trans hb07)
              have hb18 := Lib.hid (fun (W : World) (G : Fr NoB (w6.drewN nq) W) => (G.cell (p := ⟨B, 1, none⟩) (World.block_lt_of_cell? _ _ hb17) (fun x => x)).trans hb17)
              clear F6 hb06 hb16 hb07 hb17
              have HROW7 := Lib.hid (show ∀ (j : Nat) (u : Value), (kcs ks)[j]? = some u → (w6.drewN nq).cell? ((⟨gk, 0, none⟩ : Addr).add j) = some u from HROW6.out)
              have HGK7 := Lib.hid (show gk < (w6.drewN nq).heap.size from HGK6.out)
              clear HROW6 HGK6
              generalize w6.drewN nq = w7 at HROW7 HGK7 F7 hb08 hb18 ⊢
              have HL1 := Lib.hid (kcs_take_len HLE.out)
              have HBD := Lib.hid (bdk HLE.out HKL.out)
              have ht00 : ¬ (t : Int) < 0 := Int.not_lt.2 (Int.natCast_nonneg t)
              have hdt0 : decide ((t : Int) < 0) = false := decide_eq_false ht00
              have htl := not_lt_cast HLE.out
              go_wp2_with (first | (at_builtin; refine wpList_append_src _ rfl _ _ 44 rfl w7.heap.size 52 i0 (.agg #[.int .i64 0, .int .i64 0]) 2 16 Try.underlying44 hi0 hz0 hz1 hz2 rfl (by decide) (.slice none 0 0) 0 [] rfl (World.ownsRow_nil _ _ _ _) _ t _ (kcs (ks.take t)) rfl HL1.out (fun _ => ⟨_, rfl, ksrc_take (Fr.refl NoB w7) HGK7.out HROW7.out t⟩) (kcs_one _) HBD.out.1.1 HBD.out.1.2 (Nat.le_refl _) ?_; intro v1 W1 hA1; have f1 : Fr NoB w7 W1 := hA1.fr.mono (fun _ _ h => by simp [Value.ownBlock] at h); have hb0n := hb08.out W1 f1; have hb1n := hb18.out W1 f1; have o1 := hA1.own; rw [Nat.zero_add, List.nil_append] at o1; obtain ⟨A1, c1, rfl, -, -⟩ := nown_form4 o1; have F1 := Lib.hid (f1.alloc (.cells #[.int .i64 x1, .int .i64 x2] 52)); have O1 := Lib.hid (o1.alloc (.cells #[.int .i64 x1, .int .i64 x2] 52)); have NB := Lib.hid (World.news_of_block (heap_alloc_new W1 (.cells #[.int .i64 x1, .int .i64 x2] 52))); clear hA1 f1 o1) | (at_builtin; refine wpList_append_src _ rfl _ _ 44 rfl w7.heap.size 52 i0 (.agg #[.int .i64 0, .int .i64 0]) 2 16 Try.underlying44 hi0 hz0 hz1 hz2 rfl (by decide) (.slice A1 t c1) t (kcs (ks.take t)) rfl O1.out _ 1 _ (kc (x1, x2)) rfl rfl (fun _ => ⟨_, rfl, NB.out⟩) (kc_one _) HBD.out.2.1.1 HBD.out.2.1.2 F1.out.size ?_; intro v2 W2 hA2; have f2 : Fr NoB w7 W2 := F1.out.trans hA2.fr (fun k hk hx => absurd (O1.out.lt k hx).1 (Nat.not_le.2 hk)); have o2 := hA2.own; obtain ⟨A2, c2, rfl, -, -⟩ := nown_form4 o2; have F2 := Lib.hid f2; have O2 := Lib.hid o2; clear hA2 f2 o2) | (at_builtin; refine wpList_append_src _ rfl _ _ 44 rfl w7.heap.size 52 i0 (.agg #[.int .i64 0, .int .i64 0]) 2 16 Try.underlying44 hi0 hz0 hz1 hz2 rfl (by decide) (.slice A2 (t + 1) c2) (t + 1) (kcs (ks.take t) ++ kc (x1, x2)) rfl O2.out _ 0 _ (kcs []) rfl rfl (fun h0 => absurd h0 (Nat.lt_irrefl 0)) (kcs_one _) HBD.out.2.1.1 HBD.out.2.1.2 F2.out.size ?_; intro v3 W3 hA3; have f3 : Fr NoB w7 W3 := F2.out.trans hA3.fr (fun k hk hx => absurd (O2.out.lt k hx).1 (Nat.not_le.2 hk)); have F3 := Lib.hid (F7.out.trans f3 (fun k hk hx => absurd hx (fun x => x))); have O3 := Lib.hid (nown_base hA3.own F7.out.size); clear hA3 f3) | fail)
              go_roundw
              case rel =>
                refine ⟨j + 1, hj9, by go_num, ?_, fun h0 => absurd (HINS.out.symm.trans h0) (by simp), F3.out⟩
                rw [HINS.out, kcs_append, kcs_append, List.length_append, List.length_append]
                rw [List.length_take, Nat.min_eq_left HLE.out]
                exact O3.out
              case measure => simp [intOf]; omega
            · have hti : decide ((t : Int) < (t : Int)) = false := decide_eq_false (by omega)
              have hckt := hcc
              have hcl := not_lt_cast hlt3
              clear hlt3 hT hcc ht0 htj hln ht
              go_wp2
              go_quiet (fail)
              have F6 := Lib.hid (show Fr NoB w ((w5.drewN n).drewN nq) from ((F5.out.drewN n).drewN nq))
              have hb06 : ∀ q, (((w5.drewN n).drewN nq).drewN q).cell? ⟨B, 0, none⟩ = some (.int .i64 x1) := fun q => hb0 q
              have hb16 : ∀ q, (((w5.drewN n).drewN nq).drewN q).cell? ⟨B, 1, none⟩ = some (.int .i64 x2) := fun q => hb1 q
              have HROW6 := Lib.hid (show ∀ (j : Nat) (u : Value), (kcs ks)[j]? = some u → ((w5.drewN n).drewN nq).cell? ((⟨gk, 0, none⟩ : Addr).add j) = some u from HROW.out)
              have HGK6 := Lib.hid (show gk < ((w5.drewN n).drewN nq).heap.size from hgk)

              clear hb0n hb1n hb0nn hb1nn hb0 hb1 hgk HROW
              generalize (w5.drewN n).drewN nq = w6 at F6 hb06 hb16 HROW6 HGK6 ⊢
              clear F5 HBX
              go_wp2
              go_quiet (fail)
              have F7 := Lib.hid (F6.out.drewN nq)
              have hb07 := hb06 nq
              have hb17 := hb16 nq
              have hb08 := Lib.hid (fun (W : World) (G : Fr NoB (w6.drewN nq) W) => (G.cell (p := ⟨B, 0, none⟩) (World.block_lt_of_cell? _ _ hb07) (fun x => x)).trans hb07)
              have hb18 := Lib.hid (fun (W : World) (G : Fr NoB (w6.drewN nq) W) => (G.cell (p := ⟨B, 1, none⟩) (World.block_lt_of_cell? _ _ hb17) (fun x => x)).trans hb17)
              clear F6 hb06 hb16 hb07 hb17
              have HROW7 := Lib.hid (show ∀ (j : Nat) (u : Value), (kcs ks)[j]? = some u → (w6.drewN nq).cell? ((⟨gk, 0, none⟩ : Addr).add j) = some u from HROW6.out)
              have HGK7 := Lib.hid (show gk < (w6.drewN nq).heap.size from HGK6.out)
              clear HROW6 HGK6
              generalize w6.drewN nq = w7 at HROW7 HGK7 F7 hb08 hb18 ⊢
              have HL1 := Lib.hid (kcs_take_len HLE.out)
              have HBD := Lib.hid (bdk HLE.out HKL.out)
              have ht00 : ¬ (t : Int) < 0 := Int.not_lt.2 (Int.natCast_nonneg t)
              have hdt0 : decide ((t : Int) < 0) = false := decide_eq_false ht00
              have htl := not_lt_cast HLE.out
              go_wp2_with (first | (at_builtin; refine wpList_append_src _ rfl _ _ 44 rfl w7.heap.size 52 i0 (.agg #[.int .i64 0, .int .i64 0]) 2 16 Try.underlying44 hi0 hz0 hz1 hz2 rfl (by decide) (.slice none 0 0) 0 [] rfl (World.ownsRow_nil _ _ _ _) _ t _ (kcs (ks.take t)) rfl HL1.out (fun _ => ⟨_, rfl, ksrc_take (Fr.refl NoB w7) HGK7.out HROW7.out t⟩) (kcs_one _) HBD.out.1.1 HBD.out.1.2 (Nat.le_refl _) ?_; intro v1 W1 hA1; have f1 : Fr NoB w7 W1 := hA1.fr.mono (fun _ _ h => by simp [Value.ownBlock] at h); have hb0n := hb08.out W1 f1; have hb1n := hb18.out W1 f1; have o1 := hA1.own; rw [Nat.zero_add, List.nil_append] at o1; obtain ⟨A1, c1, rfl, -, -⟩ := nown_form4 o1; have F1 := Lib.hid (f1.alloc (.cells #[.int .i64 x1, .int .i64 x2] 52)); have O1 := Lib.hid (o1.alloc (.cells #[.int .i64 x1, .int .i64 x2] 52)); have NB := Lib.hid (World.news_of_block (heap_alloc_new W1 (.cells #[.int .i64 x1, .int .i64 x2] 52))); clear hA1 f1 o1) | (at_builtin; refine wpList_append_src _ rfl _ _ 44 rfl w7.heap.size 52 i0 (.agg #[.int .i64 0, .int .i64 0]) 2 16 Try.underlying44 hi0 hz0 hz1 hz2 rfl (by decide) (.slice A1 t c1) t (kcs (ks.take t)) rfl O1.out _ 1 _ (kc (x1, x2)) rfl rfl (fun _ => ⟨_, rfl, NB.out⟩) (kc_one _) HBD.out.2.1.1 HBD.out.2.1.2 F1.out.size ?_; intro v2 W2 hA2; have f2 : Fr NoB w7 W2 := F1.out.trans hA2.fr (fun k hk hx => absurd (O1.out.lt k hx).1 (Nat.not_le.2 hk)); have o2 := hA2.own; obtain ⟨A2, c2, rfl, -, -⟩ := nown_form4 o2; have F2 := Lib.hid f2; have O2 := Lib.hid o2; clear hA2 f2 o2) | (at_builtin; refine wpList_append_src _ rfl _ _ 44 rfl w7.heap.size 52 i0 (.agg #[.int .i64 0, .int .i64 0]) 2 16 Try.underlying44 hi0 hz0 hz1 hz2 rfl (by decide) (.slice A2 (t + 1) c2) (t + 1) (kcs (ks.take t) ++ kc (x1, x2)) rfl O2.out _ 0 _ (kcs []) rfl rfl (fun h0 => absurd h0 (Nat.lt_irrefl 0)) (kcs_one _) HBD.out.2.1.1 HBD.out.2.1.2 F2.out.size ?_; intro v3 W3 hA3; have f3 : Fr NoB w7 W3 := F2.out.trans hA3.fr (fun k hk hx => absurd (O2.out.lt k hx).1 (Nat.not_le.2 hk)); have F3 := Lib.hid (F7.out.trans f3 (fun k hk hx => absurd hx (fun x => x))); have O3 := Lib.hid (nown_base hA3.own F7.out.size); clear hA3 f3) | fail)
              go_roundw
              case rel =>
                refine ⟨j + 1, hj9, by go_num, ?_, fun h0 => absurd (HINS.out.symm.trans h0) (by simp), F3.out⟩
                rw [HINS.out, kcs_append, kcs_append, List.length_append, List.length_append]
                rw [List.length_take, Nat.min_eq_left HLE.out]
                exact O3.out
              case measure => simp [intOf]; omega
    · obtain rfl : j = V.length := by omega
      rw [List.take_length] at O3 hc3 ⊢
      go_wp2
      go_ret
      exact ⟨A3, c3, rfl, RdK.own O3.out, F.out⟩
end Go.Proofs.Ytmgkenbfjlahpaa
