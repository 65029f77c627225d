/-
  Sgp: SegmentTorn's walk.
-/
import Derived.Test.YtmlmbahimklfiaaDoorSgn
import Derived.Test.YtmlmbahimklfiaaDoorSgs
import Derived.Deep.DeepCutAuto
namespace Go.Proofs.YtmlmbahimklfiaaDoor
open Go.RowKit

/-- What the loop has made of the first k deeds. -/
structure TR (w W : World) (k : Nat) (V U B : Value) (L : List (De × Pl)) : Prop where
  d : DT w.heap.size W V U B L (endZ (L.map (·.1))) (segB (L.map (·.1)))
  ok : ∀ x ∈ L.map (·.1), RightD x
  up : Rise 0 (L.map (·.1))
  last : lastZ 0 (L.map (·.1)) < 7 + 2 * (k : Int)
  len : L.length ≤ k
  bytes : (segB (L.map (·.1))).length ≤ k * 700008
  fr : Fr NoB w W
set_option maxRecDepth 8000 in
theorem TR.next {w W W' : World} {k : Nat} {V U B : Value} {L : List (De × Pl)} (h : TR w W k V U B L) (f : Fr NoB W W') : TR w W' (k + 1) V U B L :=
  ⟨h.d.then f, h.ok, h.up, by have := h.last; omega, Nat.le_succ_of_le h.len, by have := h.bytes; rw [Nat.add_mul]; exact Nat.le_trans this (Nat.le_add_right _ _), h.fr.then f⟩
set_option maxRecDepth 8000 in
theorem TR.push {w W W' : World} {k : Nat} {V U B V' U' B' : Value} {L : List (De × Pl)} {x : De × Pl} (h : TR w W k V U B L) (hx : RightD x.1) (hz : x.1.1.z = 7 + 2 * (k : Int)) (hf : Fr NoB w W') (d : DT w.heap.size W' V' U' B' (L ++ [x]) (endZ (L.map (·.1)) ++ [((segB (L.map (·.1)) ++ frameB (deB x.1)).length : Int)]) (segB (L.map (·.1)) ++ frameB (deB x.1))) : TR w W' (k + 1) V' U' B' (L ++ [x]) := by
  have e : (L ++ [x]).map (·.1) = L.map (·.1) ++ [x.1] := by simp
  have hl := hx.len
  have hlast := h.last
  refine ⟨?_, ?_, ?_, ?_, by rw [List.length_append, List.length_singleton]; have := h.len; omega, ?_, hf⟩
  · rw [e, segB_snoc]
    have e2 : endZ (L.map (·.1) ++ [x.1]) = endZ (L.map (·.1)) ++ [((segB (L.map (·.1)) ++ frameB (deB x.1)).length : Int)] := by
      simp only [endZ, endsOf_snoc, List.map_append, List.map_cons, List.map_nil, Nat.zero_add, segB_snoc]
    rw [e2]
    exact d
  · rw [e]
    intro y hy
    rcases List.mem_append.1 hy with hy | hy
    · exact h.ok y hy
    · simp only [List.mem_singleton] at hy
      subst hy
      exact hx
  · rw [e]
    exact rise_snoc h.up (by omega)
  · rw [e, lastZ_snoc, hz]
    omega
  · rw [e, segB_snoc, List.length_append, frameB_len]
    have := h.bytes
    rw [Nat.add_mul, Nat.one_mul]
    exact Nat.add_le_add this (by omega)
theorem own_form3 {w : World} {base e n size : Nat} {v : Value} {xs : List Value} (h : w.ownsRow base e size v n xs) : ∃ A c, v = .slice A n c := by
  obtain ⟨A, c, h, -, -⟩ := own_form4 h
  exact ⟨A, c, h⟩

set_option maxRecDepth 8000 in
set_option maxHeartbeats 25600000 in
theorem torn_walk (A : Option Addr) (ds : List De) (c : Nat) (cut : Int) (junk : UInt8) (w : World) (h : RdS w 0 w.heap.size A ds) (hlc : ds.length ≤ c) (hcm : c ≤ maxLen) (hok : ∀ x ∈ ds, x.1.Ok ∧ x.2.length ≤ 140737488355328 ∧ ∀ q ∈ x.2, q.1.Ok ∧ q.2 ≤ 140737488355328) (hcu : -9223372036854775808 ≤ cut ∧ cut ≤ 9223372036854775807) (hH : Has w) :
    Calls Tryd.prog 4 #[.slice A ds.length c, .int .i64 cut, .int .u8 (junk.toNat : Int)] w fun e w' => e = .returned (.bool true) ∧ Fr NoB w w' := by
  obtain ⟨i0, hi0, hz0, hz1, hz2⟩ := info_parts info_deed
  obtain ⟨j0, hj0, hy0, hy1, hy2⟩ := info_parts info_int
  obtain ⟨y0, hbi0, hbx0, hbx1, hbx2⟩ := info_parts info_byte
  have HW := Lib.hid hH
  have HR := Lib.hid h
  have HOK := Lib.hid hok
  have HCU := Lib.hid hcu
  have hc30 : 30 < ds.length → (30 : Int) ≤ (c : Int) := fun h => by omega
  have HC30 := Lib.hid hc30
  clear h hok hH hc30 hcu
  go_enter Tryd.func4, Tryd.ntmps4
  go_wp2_with (fail)
  refine (awake_calls w HW.out).mono ?_
  rintro e w0 ⟨rfl, f0⟩
  go_upto_if 25 with fail
  go_cut [0] (fun s W => (∃ ds' : List De, ds' = ds.take 30 ∧ s = .slice A ds'.length c) ∧ W = w0)
  case first =>
    by_cases h30 : 30 < ds.length
    · have h30i : (30 : Int) < (ds.length : Int) := by omega
      have h30c := HC30.out h30
      go_wp2
      all_goals go_meet
      all_goals exact ⟨⟨ds.take 30, rfl, by rw [List.length_take, Nat.min_eq_left (by omega)]⟩, rfl⟩
    · have h30i : ¬ (30 : Int) < (ds.length : Int) := by omega
      go_wp2
      all_goals go_meet
      all_goals exact ⟨⟨ds.take 30, rfl, by rw [List.take_of_length_le (by omega)]⟩, rfl⟩
  case rest =>
    obtain ⟨⟨ds', hds, rfl⟩, rfl⟩ := hcut
    have hn30 : ds'.length ≤ 30 := by rw [hds, List.length_take]; omega
    have hnc : ds'.length ≤ c := by rw [hds, List.length_take]; omega
    have HR2 := Lib.hid (hds ▸ HR.out.take 30)
    have HOK2 : Hid (∀ x ∈ ds', x.1.Ok ∧ x.2.length ≤ 140737488355328 ∧ ∀ q ∈ x.2, q.1.Ok ∧ q.2 ≤ 140737488355328) := Lib.hid (fun x hx => HOK.out x (by rw [hds] at hx; exact List.mem_of_mem_take hx))
    have F0 := Lib.hid f0
    clear hds HR HOK HC30 hlc f0
    go_wp2
    go_loopw [7, 8, 9, 10] (fun V U B i W => ∃ (k : Nat) (L : List (De × Pl)), k ≤ ds'.length ∧ i = .int .i64 (k : Int) ∧ TR w W k V U B L) (fun _ _ _ i _ => ds'.length - (intOf i).toNat)
    case atStart => exact ⟨0, [], Nat.zero_le _, rfl, DT.nil _ F0.out.size, fun x hx => absurd hx (by simp), trivial, by simp [lastZ], Nat.le_refl _, by simp [segB], F0.out⟩
    case round =>
      obtain ⟨k, L, hk, rfl, hT⟩ := hrel
      have T := Lib.hid hT
      clear hT
      have hk0 : (0 : Int) ≤ (k : Int) := by omega
      by_cases hlt : k < ds'.length
      · have hki : (k : Int) < (ds'.length : Int) := by omega
        obtain ⟨g, o, rfl, hg0, hg1, h4⟩ := HR2.out (by omega)
        obtain ⟨pl, hc4, hrd⟩ := h4 k ds'[k] (List.getElem?_eq_getElem hlt)
        obtain ⟨hfo, hnl, hpo⟩ := HOK2.out ds'[k] (List.getElem_mem hlt)
        clear h4
        obtain ⟨⟨f, l⟩, hd⟩ : ∃ d, ds'[k] = d := ⟨_, rfl⟩
        rw [hd] at hc4 hrd hfo hnl hpo
        clear hd
        simp only at hc4 hrd hfo hnl hpo
        have HL : Hid (wr.rangeAt g (o + k * 16) (dcells f pl l.length).toList) := Lib.hid (fun j v hv => (T.out.fr.cell (p := ⟨g, o + k * 16 + j, none⟩) hg1 (fun x => x)).trans (hc4 j v (by simpa using hv)))
        have hbw : w.heap.size ≤ wr.heap.size := T.out.fr.size
        have hz7 : wrap64 (2 * (k : Int)) = 2 * (k : Int) := by unfold wrap64; omega
        have hz8 : wrap64 (7 + 2 * (k : Int)) = 7 + 2 * (k : Int) := by unfold wrap64; omega
        have HRD := Lib.hid (tornF_rd hrd k)
        have HFO := Lib.hid (tornF_ok hfo (k := k) (by omega))
        have HPO := Lib.hid hpo
        clear hc4 hrd hpo
        by_cases h7 : f.k = 7
        · have h7i : (f.k == 7) = true := by rw [beq_iff_eq]; exact h7
          have hCS : dcells (tornF f k) pl l.length = #[.int .i64 (7 + 2 * (k : Int)), .int .u8 f.k, .int .i64 f.s, .int .i64 f.t, .int .i64 f.x, .int .i64 f.m, .string ⟨f.path.toArray⟩, .slice pl.A f.data.length pl.c, .int .i64 f.ow, .int .i64 f.ve, .int .i64 f.cv, .int .i64 f.ti, .int .i64 f.er, .int .i64 (7 + 2 * (k : Int)), .slice pl.B f.c.2.length pl.d, .slice pl.P l.length pl.e] := by simp [tornF, dcells, h7]
          obtain ⟨W2, hW2⟩ : ∃ W2, (wr.alloc (.cells #[.int .i64 (7 + 2 * (k : Int)), .int .u8 f.k, .int .i64 f.s, .int .i64 f.t, .int .i64 f.x, .int .i64 f.m, .string ⟨f.path.toArray⟩, .slice pl.A f.data.length pl.c, .int .i64 f.ow, .int .i64 f.ve, .int .i64 f.cv, .int .i64 f.ti, .int .i64 f.er, .int .i64 (7 + 2 * (k : Int)), .slice pl.B f.c.2.length pl.d, .slice pl.P l.length pl.e] 35)) = W2 := ⟨_, rfl⟩
          have hf2 : Fr NoB wr W2 := by rw [← hW2]; exact (Fr.refl NoB wr).alloc _
          have hb2 : W2.heap[wr.heap.size]? = some (.cells #[.int .i64 (7 + 2 * (k : Int)), .int .u8 f.k, .int .i64 f.s, .int .i64 f.t, .int .i64 f.x, .int .i64 f.m, .string ⟨f.path.toArray⟩, .slice pl.A f.data.length pl.c, .int .i64 f.ow, .int .i64 f.ve, .int .i64 f.cv, .int .i64 f.ti, .int .i64 f.er, .int .i64 (7 + 2 * (k : Int)), .slice pl.B f.c.2.length pl.d, .slice pl.P l.length pl.e] 35 (0, 0)) := by
            rw [← hW2]
            exact heap_alloc_new wr _
          have F2 := Lib.hid hf2
          have HB2 := Lib.hid hb2
          have HW2 := Lib.hid hW2
          clear h7 hW2
          have hDi := Lib.hid (fun W (G : Fr NoB wr W) => (show IsD W (dcells (tornF f k) pl l.length) (tornF f k) l from ⟨pl, 0, w.heap.size, rfl, Nat.le_trans hbw G.size, HRD.out.fr (T.out.fr.then G) (Nat.le_refl _) (fun _ _ _ x => x)⟩))
          have hput := fun W (G : Fr NoB wr W) => sput_calls (hDi.out W G) hnl HFO.out HPO.out (HW.out.fr (T.out.fr.then G))
          have hrig := fun W (G : Fr NoB wr W) => b_right (hDi.out W G) hnl HFO.out HPO.out (HW.out.fr (T.out.fr.then G))
          rw [hCS] at hput hrig
          have HX := Lib.hid (fun W (G : Fr NoB wr W) => HRD.out.fr (T.out.fr.then G) (Nat.le_refl _) (fun _ _ _ x => x))
          clear hf2 hb2 hDi
          by_cases hbig : 100 < l.length ∨ 60000 < f.data.length
          · have FE := Lib.hid (T.out.fr.then F2.out)
            clear HRD HFO HPO hfo hput hrig HX HB2 F2 hCS
            by_cases hnp : 100 < l.length
            · have hnpi : (100 : Int) < (l.length : Int) := by omega
              have hnpd : decide ((100 : Int) < (l.length : Int)) = true := decide_eq_true hnpi
              go_wp2_with (first | (with_reducible refine wpList_load_mid rfl 35 _ rfl g (o + k * 16) rfl _ _ HL.out Tryd.underlying35 rfl (size_deed _ _ _) ?_; simp only [dcells]) | (refine wpList_store_row rfl 35 _ _ rfl wr.heap.size _ rfl rfl _ _ (heap_alloc_last wr _) size16 rfl (by simp [Value.oneCell']) ?_; rw [World.setRow_alloc_new]) | fail)
              go_ret
              refine ⟨rfl, ?_⟩
              rw [HW2.out]
              exact FE.out
            · have hnpi : ¬ (100 : Int) < (l.length : Int) := by omega
              have hnpd : decide ((100 : Int) < (l.length : Int)) = false := decide_eq_false hnpi
              have hdpi : (60000 : Int) < (f.data.length : Int) := by omega
              have hdpd : decide ((60000 : Int) < (f.data.length : Int)) = true := decide_eq_true hdpi
              go_wp2_with (first | (with_reducible refine wpList_load_mid rfl 35 _ rfl g (o + k * 16) rfl _ _ HL.out Tryd.underlying35 rfl (size_deed _ _ _) ?_; simp only [dcells]) | (refine wpList_store_row rfl 35 _ _ rfl wr.heap.size _ rfl rfl _ _ (heap_alloc_last wr _) size16 rfl (by simp [Value.oneCell']) ?_; rw [World.setRow_alloc_new]) | fail)
              go_ret
              refine ⟨rfl, ?_⟩
              rw [HW2.out]
              exact FE.out
          have hnpi : ¬ (100 : Int) < (l.length : Int) := by omega
          have hnpd : decide ((100 : Int) < (l.length : Int)) = false := decide_eq_false hnpi
          have hdpi : ¬ (60000 : Int) < (f.data.length : Int) := by omega
          have hdpd : decide ((60000 : Int) < (f.data.length : Int)) = false := decide_eq_false hdpi
          by_cases hR : Right (tornF f k) l
          · have hfine := Fine.right hR HFO.out HPO.out
            have HXD := Lib.hid (show RightD (tornF f k, l) from ⟨hR, hfine.ok, hfine.parts⟩)
            rw [show putS (tornF f k) l = (frameB (deB (tornF f k, l)), 0) from if_pos hR] at hput
            rw [decide_eq_true hR] at hrig
            have HFL := Lib.hid (show (frameB (deB (tornF f k, l))).length ≤ 700008 by rw [frameB_len]; have := HXD.out.len; omega)
            have HCS := Lib.hid hCS
            obtain ⟨R, hR2⟩ : ∃ R, frameB (deB (tornF f k, l)) = R := ⟨_, rfl⟩
            simp only [hR2] at hput HFL
            have HRQ := Lib.hid hR2
            have HPU := Lib.hid hput
            have HRI := Lib.hid hrig
            have hD0 := T.out.d
            have hB0 := T.out.bytes
            obtain ⟨bs, hbs⟩ : ∃ bs, segB (L.map (·.1)) = bs := ⟨_, rfl⟩
            obtain ⟨es, hes⟩ : ∃ es, endZ (L.map (·.1)) = es := ⟨_, rfl⟩
            rw [hbs, hes] at hD0
            rw [hbs] at hB0
            have HBS := Lib.hid hbs
            have HES := Lib.hid hes
            have hel : es.length ≤ 30 := by rw [← hes]; simp [endZ, endsOf_len]; have := T.out.len; omega
            have hll : L.length ≤ 30 := by have := T.out.len; omega
            have hrl := HFL.out
            have hbl : bs.length ≤ 30000000 := by omega
            have HD0 := Lib.hid hD0
            have hno : ∀ q : Value, (∀ g, q.ownBlock = some g → g < wr.heap.size) → ¬ q.ownBlock = some wr.heap.size := fun q hq hx => by have := hq _ hx; omega
            have HNB := Lib.hid (hno u9 (fun g hg => (hD0.bytes.lt g hg).2))
            have HNV := Lib.hid (hno u7 (fun g hg => (hD0.own.lt g hg).2))
            clear hput hrig hbig HPO hfo hR hCS hR2 hbs hes hD0 hfine hno hB0
            go_wp2_with (first | (with_reducible refine wpList_load_mid rfl 35 _ rfl g (o + k * 16) rfl _ _ HL.out Tryd.underlying35 rfl (size_deed _ _ _) ?_; simp only [dcells]) | (refine wpList_store_row rfl 35 _ _ rfl wr.heap.size _ rfl rfl _ _ (heap_alloc_last wr _) size16 rfl (by simp [Value.oneCell']) ?_; rw [World.setRow_alloc_new]) | (refine wpList_load_row rfl 35 (.tmp 11) rfl wr.heap.size rfl _ _ _ _ (HW2.out ▸ HB2.out) Tryd.underlying35 rfl size16 ?_) | fail)
            rw [HW2.out]
            refine (HPU.out W2 F2.out).mono ?_
            rintro e w3 ⟨A3, c3, rfl, -, -, hr3, f3⟩
            have HB3 := Lib.hid (f3.at_ HB2.out (fun x => x))
            have HR3 := Lib.hid hr3
            have F3 := Lib.hid (F2.out.then f3)
            clear HB2 hr3 f3 F2 HPU
            go_wp2_with (first | (refine wpList_load_row rfl 35 (.tmp 11) rfl wr.heap.size rfl _ _ _ _ HB3.out Tryd.underlying35 rfl size16 ?_) | fail)
            refine (HRI.out w3 F3.out).mono ?_
            rintro e w4 ⟨rfl, f4⟩
            have HB4 := Lib.hid (f4.at_ HB3.out (fun x => x))
            have hs4 := (HR3.out.fr f4 (Nat.le_refl _) (fun _ _ _ x => x)).srcs
            have F4 := Lib.hid (F3.out.then f4)
            have D4 := Lib.hid (HD0.out.then F4.out)
            clear HB3 HR3 f4 F3 HRI HD0
            go_wp2_with (first | (at_builtin; refine (wpList_append_src _ rfl _ _ 22 rfl w.heap.size 5 y0 (.int .u8 0) 1 1 Tryd.underlying22 hbi0 hbx0 hbx1 hbx2 rfl (by decide) u9 bs.length (bv bs) rfl D4.out.bytes A3 R.length c3 (bv R) rfl (by simp) hs4 (bv_one R) (by unfold maxLen; omega) (by omega) D4.out.base ?_)) | fail)
            intro B' w5 hA5
            have HB5 := Lib.hid (hA5.fr.at_ HB4.out HNB.out)
            have D5 := Lib.hid (D4.out.pushB hA5)
            have F5 := Lib.hid ((T.out.fr.then F4.out).upE hA5.fr (fun g hg => (D4.out.bytes.lt g hg).1))
            obtain ⟨A9, c9, rfl, -, -⟩ := own_form D5.out.bytes
            obtain ⟨m9, hm9⟩ : ∃ m9, (bs ++ R).length = m9 := ⟨_, rfl⟩
            rw [hm9] at D5 ⊢
            have HM9 := Lib.hid hm9
            clear hA5 HB4 D4 hs4 hm9
            have hn5 := World.news_of_block (heap_alloc_new w5 (.cells #[.int .i64 (7 + 2 * (k : Int)), .int .u8 f.k, .int .i64 f.s, .int .i64 f.t, .int .i64 f.x, .int .i64 f.m, .string ⟨f.path.toArray⟩, .slice pl.A f.data.length pl.c, .int .i64 f.ow, .int .i64 f.ve, .int .i64 f.cv, .int .i64 f.ti, .int .i64 f.er, .int .i64 (7 + 2 * (k : Int)), .slice pl.B f.c.2.length pl.d, .slice pl.P l.length pl.e] 35))
            have HN5 := Lib.hid hn5
            have D6 := Lib.hid (D5.out.then ((Fr.refl NoB w5).alloc (.cells #[.int .i64 (7 + 2 * (k : Int)), .int .u8 f.k, .int .i64 f.s, .int .i64 f.t, .int .i64 f.x, .int .i64 f.m, .string ⟨f.path.toArray⟩, .slice pl.A f.data.length pl.c, .int .i64 f.ow, .int .i64 f.ve, .int .i64 f.cv, .int .i64 f.ti, .int .i64 f.er, .int .i64 (7 + 2 * (k : Int)), .slice pl.B f.c.2.length pl.d, .slice pl.P l.length pl.e] 35)))
            have hdl : (dsv [((tornF f k, l), pl)]).length = 1 * 16 := by rw [dsv_one]; simp [dcells]
            have hds : 0 < 1 → ∃ ad, some (⟨w5.heap.size, 0, none⟩ : Addr) = some ad ∧ ∀ j u, (dsv [((tornF f k, l), pl)])[j]? = some u → (w5.alloc (.cells #[.int .i64 (7 + 2 * (k : Int)), .int .u8 f.k, .int .i64 f.s, .int .i64 f.t, .int .i64 f.x, .int .i64 f.m, .string ⟨f.path.toArray⟩, .slice pl.A f.data.length pl.c, .int .i64 f.ow, .int .i64 f.ve, .int .i64 f.cv, .int .i64 f.ti, .int .i64 f.er, .int .i64 (7 + 2 * (k : Int)), .slice pl.B f.c.2.length pl.d, .slice pl.P l.length pl.e] 35)).cell? (ad.add j) = some u := fun _ => ⟨_, rfl, by rw [dsv_one, HCS.out]; exact HN5.out⟩
            clear hn5
            go_wp2_with (first | (refine wpList_load_row rfl 35 (.tmp 11) rfl wr.heap.size rfl _ _ _ _ HB5.out Tryd.underlying35 rfl size16 ?_) | (at_builtin; refine wpList_append_src _ rfl _ _ 27 rfl w.heap.size 35 i0 (.agg (dcells (bareF 0) pl0 0)) 16 184 Tryd.underlying27 hi0 hz0 hz1 hz2 rfl (by decide) u7 L.length (dsv L) rfl D6.out.own _ 1 1 (dsv [((tornF f k, l), pl)]) rfl hdl hds (dsv_oneCell _) (by unfold maxLen; omega) (by omega) D6.out.base ?_) | fail)
            intro V' w6 hA6
            have F5b := F5.out.then ((Fr.refl NoB w5).alloc (.cells #[.int .i64 (7 + 2 * (k : Int)), .int .u8 f.k, .int .i64 f.s, .int .i64 f.t, .int .i64 f.x, .int .i64 f.m, .string ⟨f.path.toArray⟩, .slice pl.A f.data.length pl.c, .int .i64 f.ow, .int .i64 f.ve, .int .i64 f.cv, .int .i64 f.ti, .int .i64 f.er, .int .i64 (7 + 2 * (k : Int)), .slice pl.B f.c.2.length pl.d, .slice pl.P l.length pl.e] 35))
            have D7 := Lib.hid (D6.out.pushV (x := ((tornF f k, l), pl)) (HRD.out.fr F5b (Nat.le_refl _) (fun _ _ _ x => x)) hA6)
            have F7 := Lib.hid (F5b.upE hA6.fr (fun g hg => (D6.out.own.lt g hg).1))
            clear hA6 D6 D5 F5 F5b HB5 HN5 hds hdl
            have D8 := Lib.hid (D7.out.then ((Fr.refl NoB w6).alloc (.cells #[.int .i64 (m9 : Int)] 3)))
            have F8 := Lib.hid (F7.out.then ((Fr.refl NoB w6).alloc (.cells #[.int .i64 (m9 : Int)] 3)))
            have HN8 := Lib.hid (World.news_of_block (heap_alloc_new w6 (.cells #[.int .i64 (m9 : Int)] 3)))
            go_wp2_with (first | (at_builtin; refine wpList_append_src _ rfl _ _ 28 rfl w.heap.size 3 j0 (.int .i64 0) 1 8 Tryd.underlying28 hj0 hy0 hy1 hy2 rfl (by decide) u8 es.length (nvs es) rfl D8.out.ends _ 1 1 (nvs [(m9 : Int)]) rfl rfl (fun _ => ⟨_, rfl, HN8.out⟩) (by simp [nvs, Value.oneCell']) (by unfold maxLen; omega) (by omega) D8.out.base ?_) | fail)
            intro U' w7 hA7
            have D9 := Lib.hid (D8.out.pushU hA7)
            have F9 := Lib.hid (F8.out.upE hA7.fr (fun g hg => (D8.out.ends.lt g hg).1))
            clear hA7 D8 F8 D7 F7 HN8
            have hfin : TR w w7 (k + 1) V' U' (.slice A9 m9 c9) (L ++ [((tornF f k, l), pl)]) := by
              refine T.out.push HXD.out rfl F9.out ?_
              have := D9.out
              rw [← HM9.out, ← HES.out, ← HBS.out, ← HRQ.out] at this
              rw [← HM9.out, ← HBS.out, ← HRQ.out]
              exact this
            have HFIN := Lib.hid hfin
            clear hfin
            go_wp2
            go_roundw
            case rel => exact ⟨k + 1, L ++ [((tornF f k, l), pl)], by omega, by go_num, HFIN.out⟩
            case measure => simp [intOf]; omega
          · rw [show putS (tornF f k) l = ([], 4) from if_neg hR] at hput
            simp only [List.length_nil] at hput
            rw [decide_eq_false hR] at hrig
            have HPU := Lib.hid hput
            have HRI := Lib.hid hrig
            clear hput hrig hbig HRD HFO HPO hfo HX hR hCS
            go_wp2_with (first | (with_reducible refine wpList_load_mid rfl 35 _ rfl g (o + k * 16) rfl _ _ HL.out Tryd.underlying35 rfl (size_deed _ _ _) ?_; simp only [dcells]) | (refine wpList_store_row rfl 35 _ _ rfl wr.heap.size _ rfl rfl _ _ (heap_alloc_last wr _) size16 rfl (by simp [Value.oneCell']) ?_; rw [World.setRow_alloc_new]) | (refine wpList_load_row rfl 35 (.tmp 11) rfl wr.heap.size rfl _ _ _ _ (HW2.out ▸ HB2.out) Tryd.underlying35 rfl size16 ?_) | fail)
            rw [HW2.out]
            refine (HPU.out W2 F2.out).mono ?_
            rintro e w3 ⟨A3, c3, rfl, -, -, -, f3⟩
            have HB3 := Lib.hid (f3.at_ HB2.out (fun x => x))
            have F3 := Lib.hid (F2.out.then f3)
            clear HB2 f3 F2 HPU
            go_wp2_with (first | (refine wpList_load_row rfl 35 (.tmp 11) rfl wr.heap.size rfl _ _ _ _ HB3.out Tryd.underlying35 rfl size16 ?_) | fail)
            refine (HRI.out w3 F3.out).mono ?_
            rintro e w4 ⟨rfl, f4⟩
            go_wp2
            go_roundw
            case rel => exact ⟨k + 1, L, by omega, by go_num, T.out.next (F3.out.then f4)⟩
            case measure => simp [intOf]; omega
        · have h7i : (f.k == 7) = false := by rw [beq_eq_false_iff_ne]; exact h7
          have hCS : dcells (tornF f k) pl l.length = #[.int .i64 (7 + 2 * (k : Int)), .int .u8 f.k, .int .i64 f.s, .int .i64 f.t, .int .i64 f.x, .int .i64 f.m, .string ⟨f.path.toArray⟩, .slice pl.A f.data.length pl.c, .int .i64 f.ow, .int .i64 f.ve, .int .i64 f.cv, .int .i64 f.ti, .int .i64 f.er, .int .i64 f.c.1, .slice pl.B f.c.2.length pl.d, .slice pl.P l.length pl.e] := by simp [tornF, dcells, h7]
          obtain ⟨W2, hW2⟩ : ∃ W2, (wr.alloc (.cells #[.int .i64 (7 + 2 * (k : Int)), .int .u8 f.k, .int .i64 f.s, .int .i64 f.t, .int .i64 f.x, .int .i64 f.m, .string ⟨f.path.toArray⟩, .slice pl.A f.data.length pl.c, .int .i64 f.ow, .int .i64 f.ve, .int .i64 f.cv, .int .i64 f.ti, .int .i64 f.er, .int .i64 f.c.1, .slice pl.B f.c.2.length pl.d, .slice pl.P l.length pl.e] 35)) = W2 := ⟨_, rfl⟩
          have hf2 : Fr NoB wr W2 := by rw [← hW2]; exact (Fr.refl NoB wr).alloc _
          have hb2 : W2.heap[wr.heap.size]? = some (.cells #[.int .i64 (7 + 2 * (k : Int)), .int .u8 f.k, .int .i64 f.s, .int .i64 f.t, .int .i64 f.x, .int .i64 f.m, .string ⟨f.path.toArray⟩, .slice pl.A f.data.length pl.c, .int .i64 f.ow, .int .i64 f.ve, .int .i64 f.cv, .int .i64 f.ti, .int .i64 f.er, .int .i64 f.c.1, .slice pl.B f.c.2.length pl.d, .slice pl.P l.length pl.e] 35 (0, 0)) := by
            rw [← hW2]
            exact heap_alloc_new wr _
          have F2 := Lib.hid hf2
          have HB2 := Lib.hid hb2
          have HW2 := Lib.hid hW2
          clear h7 hW2
          have hDi := Lib.hid (fun W (G : Fr NoB wr W) => (show IsD W (dcells (tornF f k) pl l.length) (tornF f k) l from ⟨pl, 0, w.heap.size, rfl, Nat.le_trans hbw G.size, HRD.out.fr (T.out.fr.then G) (Nat.le_refl _) (fun _ _ _ x => x)⟩))
          have hput := fun W (G : Fr NoB wr W) => sput_calls (hDi.out W G) hnl HFO.out HPO.out (HW.out.fr (T.out.fr.then G))
          have hrig := fun W (G : Fr NoB wr W) => b_right (hDi.out W G) hnl HFO.out HPO.out (HW.out.fr (T.out.fr.then G))
          rw [hCS] at hput hrig
          have HX := Lib.hid (fun W (G : Fr NoB wr W) => HRD.out.fr (T.out.fr.then G) (Nat.le_refl _) (fun _ _ _ x => x))
          clear hf2 hb2 hDi
          by_cases hbig : 100 < l.length ∨ 60000 < f.data.length
          · have FE := Lib.hid (T.out.fr.then F2.out)
            clear HRD HFO HPO hfo hput hrig HX HB2 F2 hCS
            by_cases hnp : 100 < l.length
            · have hnpi : (100 : Int) < (l.length : Int) := by omega
              have hnpd : decide ((100 : Int) < (l.length : Int)) = true := decide_eq_true hnpi
              go_wp2_with (first | (with_reducible refine wpList_load_mid rfl 35 _ rfl g (o + k * 16) rfl _ _ HL.out Tryd.underlying35 rfl (size_deed _ _ _) ?_; simp only [dcells]) | (refine wpList_store_row rfl 35 _ _ rfl wr.heap.size _ rfl rfl _ _ (heap_alloc_last wr _) size16 rfl (by simp [Value.oneCell']) ?_; rw [World.setRow_alloc_new]) | fail)
              go_ret
              refine ⟨rfl, ?_⟩
              rw [HW2.out]
              exact FE.out
            · have hnpi : ¬ (100 : Int) < (l.length : Int) := by omega
              have hnpd : decide ((100 : Int) < (l.length : Int)) = false := decide_eq_false hnpi
              have hdpi : (60000 : Int) < (f.data.length : Int) := by omega
              have hdpd : decide ((60000 : Int) < (f.data.length : Int)) = true := decide_eq_true hdpi
              go_wp2_with (first | (with_reducible refine wpList_load_mid rfl 35 _ rfl g (o + k * 16) rfl _ _ HL.out Tryd.underlying35 rfl (size_deed _ _ _) ?_; simp only [dcells]) | (refine wpList_store_row rfl 35 _ _ rfl wr.heap.size _ rfl rfl _ _ (heap_alloc_last wr _) size16 rfl (by simp [Value.oneCell']) ?_; rw [World.setRow_alloc_new]) | fail)
              go_ret
              refine ⟨rfl, ?_⟩
              rw [HW2.out]
              exact FE.out
          have hnpi : ¬ (100 : Int) < (l.length : Int) := by omega
          have hnpd : decide ((100 : Int) < (l.length : Int)) = false := decide_eq_false hnpi
          have hdpi : ¬ (60000 : Int) < (f.data.length : Int) := by omega
          have hdpd : decide ((60000 : Int) < (f.data.length : Int)) = false := decide_eq_false hdpi
          by_cases hR : Right (tornF f k) l
          · have hfine := Fine.right hR HFO.out HPO.out
            have HXD := Lib.hid (show RightD (tornF f k, l) from ⟨hR, hfine.ok, hfine.parts⟩)
            rw [show putS (tornF f k) l = (frameB (deB (tornF f k, l)), 0) from if_pos hR] at hput
            rw [decide_eq_true hR] at hrig
            have HFL := Lib.hid (show (frameB (deB (tornF f k, l))).length ≤ 700008 by rw [frameB_len]; have := HXD.out.len; omega)
            have HCS := Lib.hid hCS
            obtain ⟨R, hR2⟩ : ∃ R, frameB (deB (tornF f k, l)) = R := ⟨_, rfl⟩
            simp only [hR2] at hput HFL
            have HRQ := Lib.hid hR2
            have HPU := Lib.hid hput
            have HRI := Lib.hid hrig
            have hD0 := T.out.d
            have hB0 := T.out.bytes
            obtain ⟨bs, hbs⟩ : ∃ bs, segB (L.map (·.1)) = bs := ⟨_, rfl⟩
            obtain ⟨es, hes⟩ : ∃ es, endZ (L.map (·.1)) = es := ⟨_, rfl⟩
            rw [hbs, hes] at hD0
            rw [hbs] at hB0
            have HBS := Lib.hid hbs
            have HES := Lib.hid hes
            have hel : es.length ≤ 30 := by rw [← hes]; simp [endZ, endsOf_len]; have := T.out.len; omega
            have hll : L.length ≤ 30 := by have := T.out.len; omega
            have hrl := HFL.out
            have hbl : bs.length ≤ 30000000 := by omega
            have HD0 := Lib.hid hD0
            have hno : ∀ q : Value, (∀ g, q.ownBlock = some g → g < wr.heap.size) → ¬ q.ownBlock = some wr.heap.size := fun q hq hx => by have := hq _ hx; omega
            have HNB := Lib.hid (hno u9 (fun g hg => (hD0.bytes.lt g hg).2))
            have HNV := Lib.hid (hno u7 (fun g hg => (hD0.own.lt g hg).2))
            clear hput hrig hbig HPO hfo hR hCS hR2 hbs hes hD0 hfine hno hB0
            go_wp2_with (first | (with_reducible refine wpList_load_mid rfl 35 _ rfl g (o + k * 16) rfl _ _ HL.out Tryd.underlying35 rfl (size_deed _ _ _) ?_; simp only [dcells]) | (refine wpList_store_row rfl 35 _ _ rfl wr.heap.size _ rfl rfl _ _ (heap_alloc_last wr _) size16 rfl (by simp [Value.oneCell']) ?_; rw [World.setRow_alloc_new]) | (refine wpList_load_row rfl 35 (.tmp 11) rfl wr.heap.size rfl _ _ _ _ (HW2.out ▸ HB2.out) Tryd.underlying35 rfl size16 ?_) | fail)
            rw [HW2.out]
            refine (HPU.out W2 F2.out).mono ?_
            rintro e w3 ⟨A3, c3, rfl, -, -, hr3, f3⟩
            have HB3 := Lib.hid (f3.at_ HB2.out (fun x => x))
            have HR3 := Lib.hid hr3
            have F3 := Lib.hid (F2.out.then f3)
            clear HB2 hr3 f3 F2 HPU
            go_wp2_with (first | (refine wpList_load_row rfl 35 (.tmp 11) rfl wr.heap.size rfl _ _ _ _ HB3.out Tryd.underlying35 rfl size16 ?_) | fail)
            refine (HRI.out w3 F3.out).mono ?_
            rintro e w4 ⟨rfl, f4⟩
            have HB4 := Lib.hid (f4.at_ HB3.out (fun x => x))
            have hs4 := (HR3.out.fr f4 (Nat.le_refl _) (fun _ _ _ x => x)).srcs
            have F4 := Lib.hid (F3.out.then f4)
            have D4 := Lib.hid (HD0.out.then F4.out)
            clear HB3 HR3 f4 F3 HRI HD0
            go_wp2_with (first | (at_builtin; refine (wpList_append_src _ rfl _ _ 22 rfl w.heap.size 5 y0 (.int .u8 0) 1 1 Tryd.underlying22 hbi0 hbx0 hbx1 hbx2 rfl (by decide) u9 bs.length (bv bs) rfl D4.out.bytes A3 R.length c3 (bv R) rfl (by simp) hs4 (bv_one R) (by unfold maxLen; omega) (by omega) D4.out.base ?_)) | fail)
            intro B' w5 hA5
            have HB5 := Lib.hid (hA5.fr.at_ HB4.out HNB.out)
            have D5 := Lib.hid (D4.out.pushB hA5)
            have F5 := Lib.hid ((T.out.fr.then F4.out).upE hA5.fr (fun g hg => (D4.out.bytes.lt g hg).1))
            obtain ⟨A9, c9, rfl, -, -⟩ := own_form D5.out.bytes
            obtain ⟨m9, hm9⟩ : ∃ m9, (bs ++ R).length = m9 := ⟨_, rfl⟩
            rw [hm9] at D5 ⊢
            have HM9 := Lib.hid hm9
            clear hA5 HB4 D4 hs4 hm9
            have hn5 := World.news_of_block (heap_alloc_new w5 (.cells #[.int .i64 (7 + 2 * (k : Int)), .int .u8 f.k, .int .i64 f.s, .int .i64 f.t, .int .i64 f.x, .int .i64 f.m, .string ⟨f.path.toArray⟩, .slice pl.A f.data.length pl.c, .int .i64 f.ow, .int .i64 f.ve, .int .i64 f.cv, .int .i64 f.ti, .int .i64 f.er, .int .i64 f.c.1, .slice pl.B f.c.2.length pl.d, .slice pl.P l.length pl.e] 35))
            have HN5 := Lib.hid hn5
            have D6 := Lib.hid (D5.out.then ((Fr.refl NoB w5).alloc (.cells #[.int .i64 (7 + 2 * (k : Int)), .int .u8 f.k, .int .i64 f.s, .int .i64 f.t, .int .i64 f.x, .int .i64 f.m, .string ⟨f.path.toArray⟩, .slice pl.A f.data.length pl.c, .int .i64 f.ow, .int .i64 f.ve, .int .i64 f.cv, .int .i64 f.ti, .int .i64 f.er, .int .i64 f.c.1, .slice pl.B f.c.2.length pl.d, .slice pl.P l.length pl.e] 35)))
            have hdl : (dsv [((tornF f k, l), pl)]).length = 1 * 16 := by rw [dsv_one]; simp [dcells]
            have hds : 0 < 1 → ∃ ad, some (⟨w5.heap.size, 0, none⟩ : Addr) = some ad ∧ ∀ j u, (dsv [((tornF f k, l), pl)])[j]? = some u → (w5.alloc (.cells #[.int .i64 (7 + 2 * (k : Int)), .int .u8 f.k, .int .i64 f.s, .int .i64 f.t, .int .i64 f.x, .int .i64 f.m, .string ⟨f.path.toArray⟩, .slice pl.A f.data.length pl.c, .int .i64 f.ow, .int .i64 f.ve, .int .i64 f.cv, .int .i64 f.ti, .int .i64 f.er, .int .i64 f.c.1, .slice pl.B f.c.2.length pl.d, .slice pl.P l.length pl.e] 35)).cell? (ad.add j) = some u := fun _ => ⟨_, rfl, by rw [dsv_one, HCS.out]; exact HN5.out⟩
            clear hn5
            go_wp2_with (first | (refine wpList_load_row rfl 35 (.tmp 11) rfl wr.heap.size rfl _ _ _ _ HB5.out Tryd.underlying35 rfl size16 ?_) | (at_builtin; refine wpList_append_src _ rfl _ _ 27 rfl w.heap.size 35 i0 (.agg (dcells (bareF 0) pl0 0)) 16 184 Tryd.underlying27 hi0 hz0 hz1 hz2 rfl (by decide) u7 L.length (dsv L) rfl D6.out.own _ 1 1 (dsv [((tornF f k, l), pl)]) rfl hdl hds (dsv_oneCell _) (by unfold maxLen; omega) (by omega) D6.out.base ?_) | fail)
            intro V' w6 hA6
            have F5b := F5.out.then ((Fr.refl NoB w5).alloc (.cells #[.int .i64 (7 + 2 * (k : Int)), .int .u8 f.k, .int .i64 f.s, .int .i64 f.t, .int .i64 f.x, .int .i64 f.m, .string ⟨f.path.toArray⟩, .slice pl.A f.data.length pl.c, .int .i64 f.ow, .int .i64 f.ve, .int .i64 f.cv, .int .i64 f.ti, .int .i64 f.er, .int .i64 f.c.1, .slice pl.B f.c.2.length pl.d, .slice pl.P l.length pl.e] 35))
            have D7 := Lib.hid (D6.out.pushV (x := ((tornF f k, l), pl)) (HRD.out.fr F5b (Nat.le_refl _) (fun _ _ _ x => x)) hA6)
            have F7 := Lib.hid (F5b.upE hA6.fr (fun g hg => (D6.out.own.lt g hg).1))
            clear hA6 D6 D5 F5 F5b HB5 HN5 hds hdl
            have D8 := Lib.hid (D7.out.then ((Fr.refl NoB w6).alloc (.cells #[.int .i64 (m9 : Int)] 3)))
            have F8 := Lib.hid (F7.out.then ((Fr.refl NoB w6).alloc (.cells #[.int .i64 (m9 : Int)] 3)))
            have HN8 := Lib.hid (World.news_of_block (heap_alloc_new w6 (.cells #[.int .i64 (m9 : Int)] 3)))
            go_wp2_with (first | (at_builtin; refine wpList_append_src _ rfl _ _ 28 rfl w.heap.size 3 j0 (.int .i64 0) 1 8 Tryd.underlying28 hj0 hy0 hy1 hy2 rfl (by decide) u8 es.length (nvs es) rfl D8.out.ends _ 1 1 (nvs [(m9 : Int)]) rfl rfl (fun _ => ⟨_, rfl, HN8.out⟩) (by simp [nvs, Value.oneCell']) (by unfold maxLen; omega) (by omega) D8.out.base ?_) | fail)
            intro U' w7 hA7
            have D9 := Lib.hid (D8.out.pushU hA7)
            have F9 := Lib.hid (F8.out.upE hA7.fr (fun g hg => (D8.out.ends.lt g hg).1))
            clear hA7 D8 F8 D7 F7 HN8
            have hfin : TR w w7 (k + 1) V' U' (.slice A9 m9 c9) (L ++ [((tornF f k, l), pl)]) := by
              refine T.out.push HXD.out rfl F9.out ?_
              have := D9.out
              rw [← HM9.out, ← HES.out, ← HBS.out, ← HRQ.out] at this
              rw [← HM9.out, ← HBS.out, ← HRQ.out]
              exact this
            have HFIN := Lib.hid hfin
            clear hfin
            go_wp2
            go_roundw
            case rel => exact ⟨k + 1, L ++ [((tornF f k, l), pl)], by omega, by go_num, HFIN.out⟩
            case measure => simp [intOf]; omega
          · rw [show putS (tornF f k) l = ([], 4) from if_neg hR] at hput
            simp only [List.length_nil] at hput
            rw [decide_eq_false hR] at hrig
            have HPU := Lib.hid hput
            have HRI := Lib.hid hrig
            clear hput hrig hbig HRD HFO HPO hfo HX hR hCS
            go_wp2_with (first | (with_reducible refine wpList_load_mid rfl 35 _ rfl g (o + k * 16) rfl _ _ HL.out Tryd.underlying35 rfl (size_deed _ _ _) ?_; simp only [dcells]) | (refine wpList_store_row rfl 35 _ _ rfl wr.heap.size _ rfl rfl _ _ (heap_alloc_last wr _) size16 rfl (by simp [Value.oneCell']) ?_; rw [World.setRow_alloc_new]) | (refine wpList_load_row rfl 35 (.tmp 11) rfl wr.heap.size rfl _ _ _ _ (HW2.out ▸ HB2.out) Tryd.underlying35 rfl size16 ?_) | fail)
            rw [HW2.out]
            refine (HPU.out W2 F2.out).mono ?_
            rintro e w3 ⟨A3, c3, rfl, -, -, -, f3⟩
            have HB3 := Lib.hid (f3.at_ HB2.out (fun x => x))
            have F3 := Lib.hid (F2.out.then f3)
            clear HB2 f3 F2 HPU
            go_wp2_with (first | (refine wpList_load_row rfl 35 (.tmp 11) rfl wr.heap.size rfl _ _ _ _ HB3.out Tryd.underlying35 rfl size16 ?_) | fail)
            refine (HRI.out w3 F3.out).mono ?_
            rintro e w4 ⟨rfl, f4⟩
            go_wp2
            go_roundw
            case rel => exact ⟨k + 1, L, by omega, by go_num, T.out.next (F3.out.then f4)⟩
            case measure => simp [intOf]; omega
      · have hki : ¬ (k : Int) < (ds'.length : Int) := by omega
        have hle := T.out.len
        have hby := T.out.bytes
        obtain ⟨R, hR⟩ : ∃ R, L.map (·.1) = R := ⟨_, rfl⟩
        have hRl : R.length = L.length := by rw [← hR]; simp
        have hok := T.out.ok
        have hup := T.out.up
        have hD := T.out.d
        have hF := T.out.fr
        rw [hR] at hok hup hD hby
        have hel : (endZ R).length = R.length := by simp [endZ, endsOf_len]
        obtain ⟨AV, cV, hVe, hV1, hV2⟩ := own_form4 hD.own
        obtain ⟨AU, cU, hUe, hU1, hU2⟩ := own_form4 hD.ends
        obtain ⟨AB, cB, rfl, hB1, hB2⟩ := own_form4 hD.bytes
        subst hVe
        have hE := RdZ.own (A := AU) (c := cU) (n := (endZ R).length) (by rw [← hUe]; exact hD.ends)
        rw [hel] at hUe hU1
        subst hUe
        have hRd := hD.rd
        rw [hR] at hRd
        have HE := Lib.hid hE
        have HB := Lib.hid (own_rd hD.bytes)
        have HV := Lib.hid hRd
        have HEL := Lib.hid hel
        have HOKR := Lib.hid hok
        have HUP := Lib.hid hup
        rw [← hRl] at hV1 hle ⊢
        obtain ⟨m, hm⟩ : ∃ m, (segB R).length = m := ⟨_, rfl⟩
        have hmb : m ≤ 21000240 := by rw [← hm]; exact Nat.le_trans hby (Nat.le_trans (Nat.mul_le_mul_right 700008 (show k ≤ 30 by omega)) (by decide))
        rw [hm] at hB1 ⊢
        have HM := Lib.hid hm
        obtain ⟨n, hn, hnm⟩ : ∃ n : Nat, cut % ((m : Int) + 1) = (n : Int) ∧ n ≤ m := ⟨(cut % ((m : Int) + 1)).toNat, by have := Int.emod_nonneg cut (show (m : Int) + 1 ≠ 0 by omega); omega, by have := Int.emod_nonneg cut (show (m : Int) + 1 ≠ 0 by omega); have := Int.emod_lt_of_pos cut (show (0 : Int) < (m : Int) + 1 by omega); omega⟩
        have hp := pick_calls cut ((m : Int) + 1) wr (by omega) (by omega)
        rw [hn] at hp
        have hw1 : wrap64 ((m : Int) + 1) = (m : Int) + 1 := by unfold wrap64; omega
        have hR30 : R.length ≤ 30 := by omega
        clear hE hel hok hup hD hRd hby hm hn hle hR hRl
        have HBI := Lib.hid (show _ ∧ _ ∧ _ ∧ _ from ⟨hbi0, hbx0, hbx1, hbx2⟩)
        have HNUM := Lib.hid (show _ ∧ _ ∧ _ ∧ _ ∧ _ ∧ _ from ⟨hV1, hU1, hB1, hnm, hmb, hR30⟩)
        clear hi0 hz0 hz1 hz2 hj0 hy0 hy1 hy2 hbi0 hbx0 hbx1 hbx2 hV1 hV2 hU1 hU2 hB1 hB2 hn30 hnc hcm hnm hmb hR30 hF
        go_wp2_with (first | ((with_reducible refine hp.mono ?_); rintro e w1 ⟨rfl, rfl⟩) | fail)
        clear hp hw1 hki
        go_loopw [15] (fun q W => ∃ j : Nat, j ≤ R.length ∧ q = .int .i64 (j : Int) ∧ (∀ (i : Nat) (e : Int), i < j → (endZ R)[i]? = some e → e ≤ (n : Int)) ∧ wr = W) (fun q _ => R.length - (intOf q).toNat)
        case atStart => exact ⟨0, Nat.zero_le _, rfl, fun i e h => absurd h (Nat.not_lt_zero _), rfl⟩
        case round =>
          obtain ⟨j, hj, rfl, hall, rfl⟩ := hrel
          have hj0 : (0 : Int) ≤ (j : Int) := by omega
          by_cases hjl : j < R.length
          · have hji : (j : Int) < (R.length : Int) := by omega
            have hdj : decide ((j : Int) < (R.length : Int)) = true := decide_eq_true hji
            obtain ⟨g, o, hAU, hg, hc⟩ := HE.out (by rw [HEL.out]; omega)
            subst hAU
            have hcj := hc j (by rw [HEL.out]; exact hjl)
            have hget : (endZ R)[j]? = some ((endZ R).getD j 0) := by rw [List.getElem?_eq_getElem (by rw [HEL.out]; exact hjl)]; simp [List.getD, HEL.out, hjl]
            obtain ⟨x, hx⟩ : ∃ x, (endZ R).getD j 0 = x := ⟨_, rfl⟩
            rw [hx] at hcj hget
            clear hc hx
            by_cases hxn : x ≤ (n : Int)
            · have hdx : decide (x ≤ (n : Int)) = true := decide_eq_true hxn
              have hj30 : j < 30 := by have := HNUM.out.2.2.2.2.2; omega
              have hal : ∀ (i : Nat) (e : Int), i < j + 1 → (endZ R)[i]? = some e → e ≤ (n : Int) := fun i e hi he => by
                by_cases hij : i = j
                · subst hij; rw [hget] at he; cases he; exact hxn
                · exact hall i e (by omega) he
              have HAL := Lib.hid hal
              clear hal hall
              go_wp2
              go_roundw
              case rel => exact ⟨j + 1, by omega, by go_num, HAL.out, trivial⟩
              case measure => simp [intOf]; omega
            · have hdx : decide (x ≤ (n : Int)) = false := decide_eq_false hxn
              have hkn : kN R n = j := kN_is (by omega) hall (fun e he => by rw [hget] at he; cases he; exact hxn)
              -- k whole deeds: j
              have HKN := Lib.hid hkn
              clear hkn hall
              obtain ⟨hV1, hU1, hB1, hnm, hmb, hR30⟩ := HNUM.out
              obtain ⟨hbi0, hbx0, hbx1, hbx2⟩ := HBI.out
              have hcp := copy_calls AB ((segB R).take n) cB w.heap.size wr.heap.size wr (HB.out.take) (by rw [List.length_take, HM.out]; omega)
              rw [show ((segB R).take n).length = n by rw [List.length_take, HM.out]; omega] at hcp
              have hn0 : ¬ (n : Int) < 0 := by omega
              have hnc0 : ¬ (cB : Int) < (n : Int) := by omega
              go_wp2_with (first | ((with_reducible refine hcp.mono ?_); rintro e w2 ⟨v2, rfl, ho2, hb2⟩; obtain ⟨A2, c2, rfl, -, -⟩ := own_form4 ho2; have F2 := Lib.hid ((T.out.fr).then (Fr.ofBelow (M := NoB) hb2)); have HO2 := Lib.hid (ho2.alloc (.cells #[.int .u8 (junk.toNat : Int)] 5)); have HG2 := Lib.hid (Fr.ofBelow (M := NoB) hb2); have HN2 := Lib.hid (World.news_of_block (heap_alloc_new w2 (.cells #[.int .u8 (junk.toNat : Int)] 5))); clear ho2 hb2) | (at_builtin; refine wpList_append_src _ rfl _ _ 22 rfl wr.heap.size 5 y0 (.int .u8 0) 1 1 Tryd.underlying22 hbi0 hbx0 hbx1 hbx2 rfl (by decide) (.slice A2 n c2) n (bv ((segB R).take n)) rfl HO2.out _ 1 _ (bv [junk]) rfl rfl (fun _ => ⟨_, rfl, HN2.out⟩) (bv_one _) (by unfold maxLen; omega) (by omega) (Nat.le_trans HG2.out.size (by simp)) ?_; intro v3 w3 hA3) | fail)
              obtain ⟨g3, c3, hv3⟩ := own_some hA3.own (Nat.succ_pos n)
              subst hv3
              have O3 := Lib.hid (show w3.ownsRow wr.heap.size 5 1 (.slice (some ⟨g3, 0, none⟩) (n + 1) c3) (n + 1) (bv ((segB R).take n ++ [junk])) from by rw [bv_append]; exact hA3.own)
              have F3 := Lib.hid ((HG2.out.alloc (.cells #[.int .u8 (junk.toNat : Int)] 5)).upE hA3.fr (fun g hg => (HO2.out.lt g hg).1))
              have HTL := Lib.hid (show ((segB R).take n).length = n by rw [List.length_take, HM.out]; omega)
              clear hA3 HO2 HG2 HN2 F2 hcp hn0 hnc0 hbi0 hbx0 hbx1 hbx2
              by_cases hnl : n < m
              · have hni : (n : Int) < (m : Int) := by omega
                have hdn : decide ((n : Int) < (m : Int)) = true := decide_eq_true hni
                obtain ⟨gB, oB, hAB, hgB1, hgB2, hcB⟩ := HB.out (by rw [HM.out]; omega)
                have hbn := hcB n (by rw [HM.out]; exact hnl)
                have HY := Lib.hid (show (segB R).getD n 0 = (segB R).getD n 0 from rfl)
                obtain ⟨yb, hyb⟩ : ∃ yb, (segB R).getD n 0 = yb := ⟨_, rfl⟩
                rw [hyb] at hbn
                have HYB := Lib.hid hyb
                subst hAB
                have hb3 : ∀ q, (w3.drewN q).cell? ⟨gB, oB + n, none⟩ = some (.int .u8 (yb.toNat : Int)) := fun q => (F3.out.cell (p := ⟨gB, oB + n, none⟩) hgB2 (fun x => x)).trans hbn
                have ht3 : ∀ q, (w3.drewN q).cell? ⟨g3, n, none⟩ = some (.int .u8 (junk.toNat : Int)) := fun q => by
                  have h := O3.out.cellAt n (by omega)
                  rw [bv_get _ n (by rw [List.length_append, HTL.out]; simp), show ((segB R).take n ++ [junk]).getD n 0 = junk by have := HTL.out; simp [List.getD, List.getElem?_append_right, this]] at h
                  exact h
                have hz3 : ∀ q, (w3.drewN q).frozen? ⟨g3, n, none⟩ = false := fun q => O3.out.frozenAt n
                have hb30 := hb3 0
                have ht30 := ht3 0
                clear hyb hbn hcB
                by_cases hje : junk = yb
                · have hbq : ((junk.toNat : Int) == (yb.toNat : Int)) = true := by rw [beq_iff_eq, hje]
                  have HJE := Lib.hid hje
                  obtain ⟨z, hxo, hzn⟩ : ∃ z : UInt8, bits BinOp.xor IntKind.u8 (junk.toNat : Int) 255 = (z.toNat : Int) ∧ z ≠ junk := ⟨_, xor255 junk, turn_ne junk⟩
                  clear hje
                  go_wp2
                  go_quiet (fail)
                  have hst := (O3.out.stored n (.int .u8 (z.toNat : Int)))
                  have O4 := Lib.hid (show ((w3.drewN nq).setCell ⟨g3, n, none⟩ (.int .u8 (z.toNat : Int))).ownsRow wr.heap.size 5 1 (.slice (some ⟨g3, 0, none⟩) (n + 1) c3) (n + 1) (bv ((segB R).take n ++ [z])) from by have h := (World.ownsRow.stored (w := w3.drewN nq) O3.out n (.int .u8 (z.toNat : Int))).1; rw [bv_setS] at h; have e := set_last ((segB R).take n) junk z; rw [HTL.out] at e; rw [e] at h; exact h)
                  have F4 := Lib.hid ((F3.out.drewN nq).setCell (p := ⟨g3, n, none⟩) (fun hlt => absurd (O3.out.lt g3 rfl).1 (by simp only at hlt; omega)) (.int .u8 (z.toNat : Int)))
                  have hyn : n < m → z ≠ (segB R).getD n 0 := fun _ e => hzn (by rw [e, HYB.out, ← HJE.out])
                  have ht4 := ht3 nq
                  have hz4 := hz3 nq
                  clear hst hb3 ht3 hz3 hb30 ht30 hbq hzn
                  have hts := torn_scan (ds := R) (n := n) (y := z) HOKR.out HUP.out (by rw [HM.out]; omega) (by rw [HM.out]; exact hyn)
                  rw [HKN.out] at hts
                  have hsc := scan_calls (some ⟨g3, 0, none⟩) ((segB R).take n ++ [z]) c3 _ _ ((w3.drewN nq).setCell ⟨g3, n, none⟩ (.int .u8 (z.toNat : Int))) (own_rd (by rw [show ((segB R).take n ++ [z]).length = n + 1 by rw [List.length_append, HTL.out]; rfl]; exact O4.out)) (Nat.le_refl _) (by obtain ⟨_, _, e, h1, h2⟩ := own_form4 O4.out; cases e; rw [List.length_append, HTL.out]; exact h1) (by obtain ⟨_, _, e, h1, h2⟩ := own_form4 O4.out; cases e; exact h2) (by rw [List.length_append, HTL.out]; simp; omega) (HW.out.fr ((T.out.fr).then F4.out))
                  rw [show ((segB R).take n ++ [z]).length = n + 1 by rw [List.length_append, HTL.out]; rfl] at hsc
                  unfold Scanned at hsc
                  rw [hts] at hsc
                  clear hts hyn
                  go_wp2_with (fail)
                  refine hsc.mono ?_
                  rintro e w5 ⟨A5, c5, A6, c6, LL, rfl, hLL, hD, f5⟩
                  have hlen : LL.length = j := by have := congrArg List.length hLL; rw [List.length_map, List.length_take] at this; omega
                  have hlt5 : (R.take j).length = j := by rw [List.length_take]; omega
                  have hRD := hD.rd
                  rw [hLL] at hRD
                  have hZ5 : RdZ w5 A6 ((endZ R).take j) := by rw [← endZ_take]; exact RdZ.own (n := (R.take j).length) (c := c6) hD.ends
                  have hzl : ((endZ R).take j).length = j := by rw [List.length_take, HEL.out]; omega
                  have F5 := Lib.hid (F4.out.then f5)
                  have hsd := fun W (G : Fr NoB w5 W) => samess_calls A5 AV (R.take j) c5 cV _ _ 0 wr.heap.size W (hRD.fr G (Nat.le_refl _) (fun _ _ _ x => x)) G.size ((HV.out.take j).fr (F5.out.then G) (Nat.le_refl _) (fun _ _ _ x => x)) (F5.out.then G).size (by rw [hlt5]; omega) (fun d hd => by have hr := HOKR.out d (List.mem_of_mem_take hd); exact Fine.right hr.1 hr.2.1 (fun q hq => ⟨(hr.2.2 q hq).1, by rw [(hr.2.2 q hq).2]; omega⟩))
                  rw [hlt5] at hsd
                  have hsi := fun W (G : Fr NoB w5 W) => samez_n A6 (some ⟨g, o, none⟩) ((endZ R).take j) j c6 cU W hzl (hZ5.fr G) ((HE.out.fr (F5.out.then G)).take j) (by omega)
                  have HSD := Lib.hid hsd
                  have HSI := Lib.hid hsi
                  rw [hlen, hlt5]
                  obtain ⟨e0, he0⟩ : ∃ e0, (segB (R.take j)).length = e0 := ⟨_, rfl⟩
                  rw [he0]
                  have HE0 := Lib.hid he0
                  have hjc : ¬ (cV : Int) < (j : Int) := by omega
                  have hjc2 : ¬ (cU : Int) < (j : Int) := by omega
                  clear hsd hsi hRD hZ5 hzl hD hLL hlen hlt5 hsc f5 he0 F4 O4 O3 F3
                  by_cases hjz : j = 0
                  · have hjp : ¬ (0 : Int) < (j : Int) := by omega
                    have he : e0 = 0 := by rw [← HE0.out, hjz]; rfl
                    subst he
                    have hjd : decide (0 < (j : Int)) = false := decide_eq_false hjp
                    clear hjz
                    go_wp2_with (fail)
                    refine (HSD.out w5 (Fr.refl _ _)).mono ?_
                    rintro e w6 ⟨rfl, f6⟩
                    go_wp2_with (fail)
                    refine (HSI.out w6 f6).mono ?_
                    rintro e w7 ⟨rfl, f7⟩
                    go_wp2
                    go_ret
                    exact ⟨rfl, (T.out.fr).then (F5.out.then (f6.then f7))⟩
                  · have hjp : (0 : Int) < (j : Int) := by omega
                    have hjd : decide (0 < (j : Int)) = true := decide_eq_true hjp
                    obtain ⟨j1, hj1⟩ : ∃ j1, j = j1 + 1 := ⟨j - 1, by omega⟩
                    have hjw : wrap64 ((j : Int) - 1) = (j1 : Int) := by unfold wrap64; omega
                    obtain ⟨gE, oE, hAE, hgE, hcE⟩ := HE.out (by rw [HEL.out]; omega)
                    have hce := (F5.out.cell (p := ⟨gE, oE + j1, none⟩) hgE (fun x => x)).trans (hcE j1 (by rw [HEL.out]; omega))
                    rw [seg_end (by omega), ← hj1, HE0.out] at hce
                    have hce2 := hce
                    rw [show j1 = j - 1 by omega] at hce2
                    have hj1R : (j1 : Int) < (R.length : Int) := by omega
                    have hj10 : (0 : Int) ≤ (j1 : Int) := by omega
                    cases hAE
                    clear hcE hj1 hjz
                    go_wp2_with (fail)
                    refine (HSD.out w5 (Fr.refl _ _)).mono ?_
                    rintro e w6 ⟨rfl, f6⟩
                    go_wp2_with (fail)
                    refine (HSI.out w6 f6).mono ?_
                    rintro e w7 ⟨rfl, f7⟩
                    go_wp2
                    go_ret
                    exact ⟨rfl, (T.out.fr).then (F5.out.then (f6.then f7))⟩
                · have hbq : ((junk.toNat : Int) == (yb.toNat : Int)) = false := by rw [beq_eq_false_iff_ne]; intro e; exact hje (UInt8.toNat_inj.1 (by omega))
                  have hyn : n < m → junk ≠ (segB R).getD n 0 := fun _ e => hje (by rw [e, HYB.out])
                  clear hje
                  go_wp2
                  go_quiet (fail)
                  have O4 := Lib.hid (show (w3.drewN nq).ownsRow wr.heap.size 5 1 (.slice (some ⟨g3, 0, none⟩) (n + 1) c3) (n + 1) (bv ((segB R).take n ++ [junk])) from O3.out)
                  have F4 := Lib.hid (F3.out.drewN nq)
                  clear hb3 ht3 hz3 hb30 ht30 hbq
                  have hts := torn_scan (ds := R) (n := n) (y := junk) HOKR.out HUP.out (by rw [HM.out]; omega) (by rw [HM.out]; exact hyn)
                  rw [HKN.out] at hts
                  have hsc := scan_calls (some ⟨g3, 0, none⟩) ((segB R).take n ++ [junk]) c3 _ _ (w3.drewN nq) (own_rd (by rw [show ((segB R).take n ++ [junk]).length = n + 1 by rw [List.length_append, HTL.out]; rfl]; exact O4.out)) (Nat.le_refl _) (by obtain ⟨_, _, e, h1, h2⟩ := own_form4 O4.out; cases e; rw [List.length_append, HTL.out]; exact h1) (by obtain ⟨_, _, e, h1, h2⟩ := own_form4 O4.out; cases e; exact h2) (by rw [List.length_append, HTL.out]; simp; omega) (HW.out.fr ((T.out.fr).then F4.out))
                  rw [show ((segB R).take n ++ [junk]).length = n + 1 by rw [List.length_append, HTL.out]; rfl] at hsc
                  unfold Scanned at hsc
                  rw [hts] at hsc
                  clear hts hyn
                  go_wp2_with (fail)
                  refine hsc.mono ?_
                  rintro e w5 ⟨A5, c5, A6, c6, LL, rfl, hLL, hD, f5⟩
                  have hlen : LL.length = j := by have := congrArg List.length hLL; rw [List.length_map, List.length_take] at this; omega
                  have hlt5 : (R.take j).length = j := by rw [List.length_take]; omega
                  have hRD := hD.rd
                  rw [hLL] at hRD
                  have hZ5 : RdZ w5 A6 ((endZ R).take j) := by rw [← endZ_take]; exact RdZ.own (n := (R.take j).length) (c := c6) hD.ends
                  have hzl : ((endZ R).take j).length = j := by rw [List.length_take, HEL.out]; omega
                  have F5 := Lib.hid (F4.out.then f5)
                  have hsd := fun W (G : Fr NoB w5 W) => samess_calls A5 AV (R.take j) c5 cV _ _ 0 wr.heap.size W (hRD.fr G (Nat.le_refl _) (fun _ _ _ x => x)) G.size ((HV.out.take j).fr (F5.out.then G) (Nat.le_refl _) (fun _ _ _ x => x)) (F5.out.then G).size (by rw [hlt5]; omega) (fun d hd => by have hr := HOKR.out d (List.mem_of_mem_take hd); exact Fine.right hr.1 hr.2.1 (fun q hq => ⟨(hr.2.2 q hq).1, by rw [(hr.2.2 q hq).2]; omega⟩))
                  rw [hlt5] at hsd
                  have hsi := fun W (G : Fr NoB w5 W) => samez_n A6 (some ⟨g, o, none⟩) ((endZ R).take j) j c6 cU W hzl (hZ5.fr G) ((HE.out.fr (F5.out.then G)).take j) (by omega)
                  have HSD := Lib.hid hsd
                  have HSI := Lib.hid hsi
                  rw [hlen, hlt5]
                  obtain ⟨e0, he0⟩ : ∃ e0, (segB (R.take j)).length = e0 := ⟨_, rfl⟩
                  rw [he0]
                  have HE0 := Lib.hid he0
                  have hjc : ¬ (cV : Int) < (j : Int) := by omega
                  have hjc2 : ¬ (cU : Int) < (j : Int) := by omega
                  clear hsd hsi hRD hZ5 hzl hD hLL hlen hlt5 hsc f5 he0 F4 O4 O3 F3
                  by_cases hjz : j = 0
                  · have hjp : ¬ (0 : Int) < (j : Int) := by omega
                    have he : e0 = 0 := by rw [← HE0.out, hjz]; rfl
                    subst he
                    have hjd : decide (0 < (j : Int)) = false := decide_eq_false hjp
                    clear hjz
                    go_wp2_with (fail)
                    refine (HSD.out w5 (Fr.refl _ _)).mono ?_
                    rintro e w6 ⟨rfl, f6⟩
                    go_wp2_with (fail)
                    refine (HSI.out w6 f6).mono ?_
                    rintro e w7 ⟨rfl, f7⟩
                    go_wp2
                    go_ret
                    exact ⟨rfl, (T.out.fr).then (F5.out.then (f6.then f7))⟩
                  · have hjp : (0 : Int) < (j : Int) := by omega
                    have hjd : decide (0 < (j : Int)) = true := decide_eq_true hjp
                    obtain ⟨j1, hj1⟩ : ∃ j1, j = j1 + 1 := ⟨j - 1, by omega⟩
                    have hjw : wrap64 ((j : Int) - 1) = (j1 : Int) := by unfold wrap64; omega
                    obtain ⟨gE, oE, hAE, hgE, hcE⟩ := HE.out (by rw [HEL.out]; omega)
                    have hce := (F5.out.cell (p := ⟨gE, oE + j1, none⟩) hgE (fun x => x)).trans (hcE j1 (by rw [HEL.out]; omega))
                    rw [seg_end (by omega), ← hj1, HE0.out] at hce
                    have hce2 := hce
                    rw [show j1 = j - 1 by omega] at hce2
                    have hj1R : (j1 : Int) < (R.length : Int) := by omega
                    have hj10 : (0 : Int) ≤ (j1 : Int) := by omega
                    cases hAE
                    clear hcE hj1 hjz
                    go_wp2_with (fail)
                    refine (HSD.out w5 (Fr.refl _ _)).mono ?_
                    rintro e w6 ⟨rfl, f6⟩
                    go_wp2_with (fail)
                    refine (HSI.out w6 f6).mono ?_
                    rintro e w7 ⟨rfl, f7⟩
                    go_wp2
                    go_ret
                    exact ⟨rfl, (T.out.fr).then (F5.out.then (f6.then f7))⟩
              · have hni : ¬ (n : Int) < (m : Int) := by omega
                have hdn : decide ((n : Int) < (m : Int)) = false := decide_eq_false hni
                have hyn : n < m → junk ≠ (segB R).getD n 0 := fun h => absurd h hnl
                go_wp2
                go_quiet (fail)
                have O4 := Lib.hid (show (w3.drewN nq).ownsRow wr.heap.size 5 1 (.slice (some ⟨g3, 0, none⟩) (n + 1) c3) (n + 1) (bv ((segB R).take n ++ [junk])) from O3.out)
                have F4 := Lib.hid (F3.out.drewN nq)
                have hts := torn_scan (ds := R) (n := n) (y := junk) HOKR.out HUP.out (by rw [HM.out]; omega) (by rw [HM.out]; exact hyn)
                rw [HKN.out] at hts
                have hsc := scan_calls (some ⟨g3, 0, none⟩) ((segB R).take n ++ [junk]) c3 _ _ (w3.drewN nq) (own_rd (by rw [show ((segB R).take n ++ [junk]).length = n + 1 by rw [List.length_append, HTL.out]; rfl]; exact O4.out)) (Nat.le_refl _) (by obtain ⟨_, _, e, h1, h2⟩ := own_form4 O4.out; cases e; rw [List.length_append, HTL.out]; exact h1) (by obtain ⟨_, _, e, h1, h2⟩ := own_form4 O4.out; cases e; exact h2) (by rw [List.length_append, HTL.out]; simp; omega) (HW.out.fr ((T.out.fr).then F4.out))
                rw [show ((segB R).take n ++ [junk]).length = n + 1 by rw [List.length_append, HTL.out]; rfl] at hsc
                unfold Scanned at hsc
                rw [hts] at hsc
                clear hts hyn
                go_wp2_with (fail)
                refine hsc.mono ?_
                rintro e w5 ⟨A5, c5, A6, c6, LL, rfl, hLL, hD, f5⟩
                have hlen : LL.length = j := by have := congrArg List.length hLL; rw [List.length_map, List.length_take] at this; omega
                have hlt5 : (R.take j).length = j := by rw [List.length_take]; omega
                have hRD := hD.rd
                rw [hLL] at hRD
                have hZ5 : RdZ w5 A6 ((endZ R).take j) := by rw [← endZ_take]; exact RdZ.own (n := (R.take j).length) (c := c6) hD.ends
                have hzl : ((endZ R).take j).length = j := by rw [List.length_take, HEL.out]; omega
                have F5 := Lib.hid (F4.out.then f5)
                have hsd := fun W (G : Fr NoB w5 W) => samess_calls A5 AV (R.take j) c5 cV _ _ 0 wr.heap.size W (hRD.fr G (Nat.le_refl _) (fun _ _ _ x => x)) G.size ((HV.out.take j).fr (F5.out.then G) (Nat.le_refl _) (fun _ _ _ x => x)) (F5.out.then G).size (by rw [hlt5]; omega) (fun d hd => by have hr := HOKR.out d (List.mem_of_mem_take hd); exact Fine.right hr.1 hr.2.1 (fun q hq => ⟨(hr.2.2 q hq).1, by rw [(hr.2.2 q hq).2]; omega⟩))
                rw [hlt5] at hsd
                have hsi := fun W (G : Fr NoB w5 W) => samez_n A6 (some ⟨g, o, none⟩) ((endZ R).take j) j c6 cU W hzl (hZ5.fr G) ((HE.out.fr (F5.out.then G)).take j) (by omega)
                have HSD := Lib.hid hsd
                have HSI := Lib.hid hsi
                rw [hlen, hlt5]
                obtain ⟨e0, he0⟩ : ∃ e0, (segB (R.take j)).length = e0 := ⟨_, rfl⟩
                rw [he0]
                have HE0 := Lib.hid he0
                have hjc : ¬ (cV : Int) < (j : Int) := by omega
                have hjc2 : ¬ (cU : Int) < (j : Int) := by omega
                clear hsd hsi hRD hZ5 hzl hD hLL hlen hlt5 hsc f5 he0 F4 O4 O3 F3
                by_cases hjz : j = 0
                · have hjp : ¬ (0 : Int) < (j : Int) := by omega
                  have he : e0 = 0 := by rw [← HE0.out, hjz]; rfl
                  subst he
                  have hjd : decide (0 < (j : Int)) = false := decide_eq_false hjp
                  clear hjz
                  go_wp2_with (fail)
                  refine (HSD.out w5 (Fr.refl _ _)).mono ?_
                  rintro e w6 ⟨rfl, f6⟩
                  go_wp2_with (fail)
                  refine (HSI.out w6 f6).mono ?_
                  rintro e w7 ⟨rfl, f7⟩
                  go_wp2
                  go_ret
                  exact ⟨rfl, (T.out.fr).then (F5.out.then (f6.then f7))⟩
                · have hjp : (0 : Int) < (j : Int) := by omega
                  have hjd : decide (0 < (j : Int)) = true := decide_eq_true hjp
                  obtain ⟨j1, hj1⟩ : ∃ j1, j = j1 + 1 := ⟨j - 1, by omega⟩
                  have hjw : wrap64 ((j : Int) - 1) = (j1 : Int) := by unfold wrap64; omega
                  obtain ⟨gE, oE, hAE, hgE, hcE⟩ := HE.out (by rw [HEL.out]; omega)
                  have hce := (F5.out.cell (p := ⟨gE, oE + j1, none⟩) hgE (fun x => x)).trans (hcE j1 (by rw [HEL.out]; omega))
                  rw [seg_end (by omega), ← hj1, HE0.out] at hce
                  have hce2 := hce
                  rw [show j1 = j - 1 by omega] at hce2
                  have hj1R : (j1 : Int) < (R.length : Int) := by omega
                  have hj10 : (0 : Int) ≤ (j1 : Int) := by omega
                  cases hAE
                  clear hcE hj1 hjz
                  go_wp2_with (fail)
                  refine (HSD.out w5 (Fr.refl _ _)).mono ?_
                  rintro e w6 ⟨rfl, f6⟩
                  go_wp2_with (fail)
                  refine (HSI.out w6 f6).mono ?_
                  rintro e w7 ⟨rfl, f7⟩
                  go_wp2
                  go_ret
                  exact ⟨rfl, (T.out.fr).then (F5.out.then (f6.then f7))⟩
          · have hji : ¬ (j : Int) < (R.length : Int) := by omega
            have hdj : decide ((j : Int) < (R.length : Int)) = false := decide_eq_false hji
            have hkn : kN R n = j := kN_is (by omega) hall (fun e he => by rw [List.getElem?_eq_none (by rw [HEL.out]; omega)] at he; cases he)
            -- k whole deeds: j
            have HKN := Lib.hid hkn
            clear hkn hall
            obtain ⟨hV1, hU1, hB1, hnm, hmb, hR30⟩ := HNUM.out
            obtain ⟨hbi0, hbx0, hbx1, hbx2⟩ := HBI.out
            have hcp := copy_calls AB ((segB R).take n) cB w.heap.size wr.heap.size wr (HB.out.take) (by rw [List.length_take, HM.out]; omega)
            rw [show ((segB R).take n).length = n by rw [List.length_take, HM.out]; omega] at hcp
            have hn0 : ¬ (n : Int) < 0 := by omega
            have hnc0 : ¬ (cB : Int) < (n : Int) := by omega
            go_wp2_with (first | ((with_reducible refine hcp.mono ?_); rintro e w2 ⟨v2, rfl, ho2, hb2⟩; obtain ⟨A2, c2, rfl, -, -⟩ := own_form4 ho2; have F2 := Lib.hid ((T.out.fr).then (Fr.ofBelow (M := NoB) hb2)); have HO2 := Lib.hid (ho2.alloc (.cells #[.int .u8 (junk.toNat : Int)] 5)); have HG2 := Lib.hid (Fr.ofBelow (M := NoB) hb2); have HN2 := Lib.hid (World.news_of_block (heap_alloc_new w2 (.cells #[.int .u8 (junk.toNat : Int)] 5))); clear ho2 hb2) | (at_builtin; refine wpList_append_src _ rfl _ _ 22 rfl wr.heap.size 5 y0 (.int .u8 0) 1 1 Tryd.underlying22 hbi0 hbx0 hbx1 hbx2 rfl (by decide) (.slice A2 n c2) n (bv ((segB R).take n)) rfl HO2.out _ 1 _ (bv [junk]) rfl rfl (fun _ => ⟨_, rfl, HN2.out⟩) (bv_one _) (by unfold maxLen; omega) (by omega) (Nat.le_trans HG2.out.size (by simp)) ?_; intro v3 w3 hA3) | fail)
            obtain ⟨g3, c3, hv3⟩ := own_some hA3.own (Nat.succ_pos n)
            subst hv3
            have O3 := Lib.hid (show w3.ownsRow wr.heap.size 5 1 (.slice (some ⟨g3, 0, none⟩) (n + 1) c3) (n + 1) (bv ((segB R).take n ++ [junk])) from by rw [bv_append]; exact hA3.own)
            have F3 := Lib.hid ((HG2.out.alloc (.cells #[.int .u8 (junk.toNat : Int)] 5)).upE hA3.fr (fun g hg => (HO2.out.lt g hg).1))
            have HTL := Lib.hid (show ((segB R).take n).length = n by rw [List.length_take, HM.out]; omega)
            clear hA3 HO2 HG2 HN2 F2 hcp hn0 hnc0 hbi0 hbx0 hbx1 hbx2
            by_cases hnl : n < m
            · have hni : (n : Int) < (m : Int) := by omega
              have hdn : decide ((n : Int) < (m : Int)) = true := decide_eq_true hni
              obtain ⟨gB, oB, hAB, hgB1, hgB2, hcB⟩ := HB.out (by rw [HM.out]; omega)
              have hbn := hcB n (by rw [HM.out]; exact hnl)
              have HY := Lib.hid (show (segB R).getD n 0 = (segB R).getD n 0 from rfl)
              obtain ⟨yb, hyb⟩ : ∃ yb, (segB R).getD n 0 = yb := ⟨_, rfl⟩
              rw [hyb] at hbn
              have HYB := Lib.hid hyb
              subst hAB
              have hb3 : ∀ q, (w3.drewN q).cell? ⟨gB, oB + n, none⟩ = some (.int .u8 (yb.toNat : Int)) := fun q => (F3.out.cell (p := ⟨gB, oB + n, none⟩) hgB2 (fun x => x)).trans hbn
              have ht3 : ∀ q, (w3.drewN q).cell? ⟨g3, n, none⟩ = some (.int .u8 (junk.toNat : Int)) := fun q => by
                have h := O3.out.cellAt n (by omega)
                rw [bv_get _ n (by rw [List.length_append, HTL.out]; simp), show ((segB R).take n ++ [junk]).getD n 0 = junk by have := HTL.out; simp [List.getD, List.getElem?_append_right, this]] at h
                exact h
              have hz3 : ∀ q, (w3.drewN q).frozen? ⟨g3, n, none⟩ = false := fun q => O3.out.frozenAt n
              have hb30 := hb3 0
              have ht30 := ht3 0
              clear hyb hbn hcB
              by_cases hje : junk = yb
              · have hbq : ((junk.toNat : Int) == (yb.toNat : Int)) = true := by rw [beq_iff_eq, hje]
                have HJE := Lib.hid hje
                obtain ⟨z, hxo, hzn⟩ : ∃ z : UInt8, bits BinOp.xor IntKind.u8 (junk.toNat : Int) 255 = (z.toNat : Int) ∧ z ≠ junk := ⟨_, xor255 junk, turn_ne junk⟩
                clear hje
                go_wp2
                go_quiet (fail)
                have hst := (O3.out.stored n (.int .u8 (z.toNat : Int)))
                have O4 := Lib.hid (show ((w3.drewN nq).setCell ⟨g3, n, none⟩ (.int .u8 (z.toNat : Int))).ownsRow wr.heap.size 5 1 (.slice (some ⟨g3, 0, none⟩) (n + 1) c3) (n + 1) (bv ((segB R).take n ++ [z])) from by have h := (World.ownsRow.stored (w := w3.drewN nq) O3.out n (.int .u8 (z.toNat : Int))).1; rw [bv_setS] at h; have e := set_last ((segB R).take n) junk z; rw [HTL.out] at e; rw [e] at h; exact h)
                have F4 := Lib.hid ((F3.out.drewN nq).setCell (p := ⟨g3, n, none⟩) (fun hlt => absurd (O3.out.lt g3 rfl).1 (by simp only at hlt; omega)) (.int .u8 (z.toNat : Int)))
                have hyn : n < m → z ≠ (segB R).getD n 0 := fun _ e => hzn (by rw [e, HYB.out, ← HJE.out])
                have ht4 := ht3 nq
                have hz4 := hz3 nq
                clear hst hb3 ht3 hz3 hb30 ht30 hbq hzn
                have hts := torn_scan (ds := R) (n := n) (y := z) HOKR.out HUP.out (by rw [HM.out]; omega) (by rw [HM.out]; exact hyn)
                rw [HKN.out] at hts
                have hsc := scan_calls (some ⟨g3, 0, none⟩) ((segB R).take n ++ [z]) c3 _ _ ((w3.drewN nq).setCell ⟨g3, n, none⟩ (.int .u8 (z.toNat : Int))) (own_rd (by rw [show ((segB R).take n ++ [z]).length = n + 1 by rw [List.length_append, HTL.out]; rfl]; exact O4.out)) (Nat.le_refl _) (by obtain ⟨_, _, e, h1, h2⟩ := own_form4 O4.out; cases e; rw [List.length_append, HTL.out]; exact h1) (by obtain ⟨_, _, e, h1, h2⟩ := own_form4 O4.out; cases e; exact h2) (by rw [List.length_append, HTL.out]; simp; omega) (HW.out.fr ((T.out.fr).then F4.out))
                rw [show ((segB R).take n ++ [z]).length = n + 1 by rw [List.length_append, HTL.out]; rfl] at hsc
                unfold Scanned at hsc
                rw [hts] at hsc
                clear hts hyn
                go_wp2_with (fail)
                refine hsc.mono ?_
                rintro e w5 ⟨A5, c5, A6, c6, LL, rfl, hLL, hD, f5⟩
                have hlen : LL.length = j := by have := congrArg List.length hLL; rw [List.length_map, List.length_take] at this; omega
                have hlt5 : (R.take j).length = j := by rw [List.length_take]; omega
                have hRD := hD.rd
                rw [hLL] at hRD
                have hZ5 : RdZ w5 A6 ((endZ R).take j) := by rw [← endZ_take]; exact RdZ.own (n := (R.take j).length) (c := c6) hD.ends
                have hzl : ((endZ R).take j).length = j := by rw [List.length_take, HEL.out]; omega
                have F5 := Lib.hid (F4.out.then f5)
                have hsd := fun W (G : Fr NoB w5 W) => samess_calls A5 AV (R.take j) c5 cV _ _ 0 wr.heap.size W (hRD.fr G (Nat.le_refl _) (fun _ _ _ x => x)) G.size ((HV.out.take j).fr (F5.out.then G) (Nat.le_refl _) (fun _ _ _ x => x)) (F5.out.then G).size (by rw [hlt5]; omega) (fun d hd => by have hr := HOKR.out d (List.mem_of_mem_take hd); exact Fine.right hr.1 hr.2.1 (fun q hq => ⟨(hr.2.2 q hq).1, by rw [(hr.2.2 q hq).2]; omega⟩))
                rw [hlt5] at hsd
                have hsi := fun W (G : Fr NoB w5 W) => samez_n A6 AU ((endZ R).take j) j c6 cU W hzl (hZ5.fr G) ((HE.out.fr (F5.out.then G)).take j) (by omega)
                have HSD := Lib.hid hsd
                have HSI := Lib.hid hsi
                rw [hlen, hlt5]
                obtain ⟨e0, he0⟩ : ∃ e0, (segB (R.take j)).length = e0 := ⟨_, rfl⟩
                rw [he0]
                have HE0 := Lib.hid he0
                have hjc : ¬ (cV : Int) < (j : Int) := by omega
                have hjc2 : ¬ (cU : Int) < (j : Int) := by omega
                clear hsd hsi hRD hZ5 hzl hD hLL hlen hlt5 hsc f5 he0 F4 O4 O3 F3
                by_cases hjz : j = 0
                · have hjp : ¬ (0 : Int) < (j : Int) := by omega
                  have he : e0 = 0 := by rw [← HE0.out, hjz]; rfl
                  subst he
                  have hjd : decide (0 < (j : Int)) = false := decide_eq_false hjp
                  clear hjz
                  go_wp2_with (fail)
                  refine (HSD.out w5 (Fr.refl _ _)).mono ?_
                  rintro e w6 ⟨rfl, f6⟩
                  go_wp2_with (fail)
                  refine (HSI.out w6 f6).mono ?_
                  rintro e w7 ⟨rfl, f7⟩
                  go_wp2
                  go_ret
                  exact ⟨rfl, (T.out.fr).then (F5.out.then (f6.then f7))⟩
                · have hjp : (0 : Int) < (j : Int) := by omega
                  have hjd : decide (0 < (j : Int)) = true := decide_eq_true hjp
                  obtain ⟨j1, hj1⟩ : ∃ j1, j = j1 + 1 := ⟨j - 1, by omega⟩
                  have hjw : wrap64 ((j : Int) - 1) = (j1 : Int) := by unfold wrap64; omega
                  obtain ⟨gE, oE, hAE, hgE, hcE⟩ := HE.out (by rw [HEL.out]; omega)
                  have hce := (F5.out.cell (p := ⟨gE, oE + j1, none⟩) hgE (fun x => x)).trans (hcE j1 (by rw [HEL.out]; omega))
                  rw [seg_end (by omega), ← hj1, HE0.out] at hce
                  have hce2 := hce
                  rw [show j1 = j - 1 by omega] at hce2
                  have hj1R : (j1 : Int) < (R.length : Int) := by omega
                  have hj10 : (0 : Int) ≤ (j1 : Int) := by omega
                  subst hAE
                  clear hcE hj1 hjz
                  go_wp2_with (fail)
                  refine (HSD.out w5 (Fr.refl _ _)).mono ?_
                  rintro e w6 ⟨rfl, f6⟩
                  go_wp2_with (fail)
                  refine (HSI.out w6 f6).mono ?_
                  rintro e w7 ⟨rfl, f7⟩
                  go_wp2
                  go_ret
                  exact ⟨rfl, (T.out.fr).then (F5.out.then (f6.then f7))⟩
              · have hbq : ((junk.toNat : Int) == (yb.toNat : Int)) = false := by rw [beq_eq_false_iff_ne]; intro e; exact hje (UInt8.toNat_inj.1 (by omega))
                have hyn : n < m → junk ≠ (segB R).getD n 0 := fun _ e => hje (by rw [e, HYB.out])
                clear hje
                go_wp2
                go_quiet (fail)
                have O4 := Lib.hid (show (w3.drewN nq).ownsRow wr.heap.size 5 1 (.slice (some ⟨g3, 0, none⟩) (n + 1) c3) (n + 1) (bv ((segB R).take n ++ [junk])) from O3.out)
                have F4 := Lib.hid (F3.out.drewN nq)
                clear hb3 ht3 hz3 hb30 ht30 hbq
                have hts := torn_scan (ds := R) (n := n) (y := junk) HOKR.out HUP.out (by rw [HM.out]; omega) (by rw [HM.out]; exact hyn)
                rw [HKN.out] at hts
                have hsc := scan_calls (some ⟨g3, 0, none⟩) ((segB R).take n ++ [junk]) c3 _ _ (w3.drewN nq) (own_rd (by rw [show ((segB R).take n ++ [junk]).length = n + 1 by rw [List.length_append, HTL.out]; rfl]; exact O4.out)) (Nat.le_refl _) (by obtain ⟨_, _, e, h1, h2⟩ := own_form4 O4.out; cases e; rw [List.length_append, HTL.out]; exact h1) (by obtain ⟨_, _, e, h1, h2⟩ := own_form4 O4.out; cases e; exact h2) (by rw [List.length_append, HTL.out]; simp; omega) (HW.out.fr ((T.out.fr).then F4.out))
                rw [show ((segB R).take n ++ [junk]).length = n + 1 by rw [List.length_append, HTL.out]; rfl] at hsc
                unfold Scanned at hsc
                rw [hts] at hsc
                clear hts hyn
                go_wp2_with (fail)
                refine hsc.mono ?_
                rintro e w5 ⟨A5, c5, A6, c6, LL, rfl, hLL, hD, f5⟩
                have hlen : LL.length = j := by have := congrArg List.length hLL; rw [List.length_map, List.length_take] at this; omega
                have hlt5 : (R.take j).length = j := by rw [List.length_take]; omega
                have hRD := hD.rd
                rw [hLL] at hRD
                have hZ5 : RdZ w5 A6 ((endZ R).take j) := by rw [← endZ_take]; exact RdZ.own (n := (R.take j).length) (c := c6) hD.ends
                have hzl : ((endZ R).take j).length = j := by rw [List.length_take, HEL.out]; omega
                have F5 := Lib.hid (F4.out.then f5)
                have hsd := fun W (G : Fr NoB w5 W) => samess_calls A5 AV (R.take j) c5 cV _ _ 0 wr.heap.size W (hRD.fr G (Nat.le_refl _) (fun _ _ _ x => x)) G.size ((HV.out.take j).fr (F5.out.then G) (Nat.le_refl _) (fun _ _ _ x => x)) (F5.out.then G).size (by rw [hlt5]; omega) (fun d hd => by have hr := HOKR.out d (List.mem_of_mem_take hd); exact Fine.right hr.1 hr.2.1 (fun q hq => ⟨(hr.2.2 q hq).1, by rw [(hr.2.2 q hq).2]; omega⟩))
                rw [hlt5] at hsd
                have hsi := fun W (G : Fr NoB w5 W) => samez_n A6 AU ((endZ R).take j) j c6 cU W hzl (hZ5.fr G) ((HE.out.fr (F5.out.then G)).take j) (by omega)
                have HSD := Lib.hid hsd
                have HSI := Lib.hid hsi
                rw [hlen, hlt5]
                obtain ⟨e0, he0⟩ : ∃ e0, (segB (R.take j)).length = e0 := ⟨_, rfl⟩
                rw [he0]
                have HE0 := Lib.hid he0
                have hjc : ¬ (cV : Int) < (j : Int) := by omega
                have hjc2 : ¬ (cU : Int) < (j : Int) := by omega
                clear hsd hsi hRD hZ5 hzl hD hLL hlen hlt5 hsc f5 he0 F4 O4 O3 F3
                by_cases hjz : j = 0
                · have hjp : ¬ (0 : Int) < (j : Int) := by omega
                  have he : e0 = 0 := by rw [← HE0.out, hjz]; rfl
                  subst he
                  have hjd : decide (0 < (j : Int)) = false := decide_eq_false hjp
                  clear hjz
                  go_wp2_with (fail)
                  refine (HSD.out w5 (Fr.refl _ _)).mono ?_
                  rintro e w6 ⟨rfl, f6⟩
                  go_wp2_with (fail)
                  refine (HSI.out w6 f6).mono ?_
                  rintro e w7 ⟨rfl, f7⟩
                  go_wp2
                  go_ret
                  exact ⟨rfl, (T.out.fr).then (F5.out.then (f6.then f7))⟩
                · have hjp : (0 : Int) < (j : Int) := by omega
                  have hjd : decide (0 < (j : Int)) = true := decide_eq_true hjp
                  obtain ⟨j1, hj1⟩ : ∃ j1, j = j1 + 1 := ⟨j - 1, by omega⟩
                  have hjw : wrap64 ((j : Int) - 1) = (j1 : Int) := by unfold wrap64; omega
                  obtain ⟨gE, oE, hAE, hgE, hcE⟩ := HE.out (by rw [HEL.out]; omega)
                  have hce := (F5.out.cell (p := ⟨gE, oE + j1, none⟩) hgE (fun x => x)).trans (hcE j1 (by rw [HEL.out]; omega))
                  rw [seg_end (by omega), ← hj1, HE0.out] at hce
                  have hce2 := hce
                  rw [show j1 = j - 1 by omega] at hce2
                  have hj1R : (j1 : Int) < (R.length : Int) := by omega
                  have hj10 : (0 : Int) ≤ (j1 : Int) := by omega
                  subst hAE
                  clear hcE hj1 hjz
                  go_wp2_with (fail)
                  refine (HSD.out w5 (Fr.refl _ _)).mono ?_
                  rintro e w6 ⟨rfl, f6⟩
                  go_wp2_with (fail)
                  refine (HSI.out w6 f6).mono ?_
                  rintro e w7 ⟨rfl, f7⟩
                  go_wp2
                  go_ret
                  exact ⟨rfl, (T.out.fr).then (F5.out.then (f6.then f7))⟩
            · have hni : ¬ (n : Int) < (m : Int) := by omega
              have hdn : decide ((n : Int) < (m : Int)) = false := decide_eq_false hni
              have hyn : n < m → junk ≠ (segB R).getD n 0 := fun h => absurd h hnl
              go_wp2
              go_quiet (fail)
              have O4 := Lib.hid (show (w3.drewN nq).ownsRow wr.heap.size 5 1 (.slice (some ⟨g3, 0, none⟩) (n + 1) c3) (n + 1) (bv ((segB R).take n ++ [junk])) from O3.out)
              have F4 := Lib.hid (F3.out.drewN nq)
              have hts := torn_scan (ds := R) (n := n) (y := junk) HOKR.out HUP.out (by rw [HM.out]; omega) (by rw [HM.out]; exact hyn)
              rw [HKN.out] at hts
              have hsc := scan_calls (some ⟨g3, 0, none⟩) ((segB R).take n ++ [junk]) c3 _ _ (w3.drewN nq) (own_rd (by rw [show ((segB R).take n ++ [junk]).length = n + 1 by rw [List.length_append, HTL.out]; rfl]; exact O4.out)) (Nat.le_refl _) (by obtain ⟨_, _, e, h1, h2⟩ := own_form4 O4.out; cases e; rw [List.length_append, HTL.out]; exact h1) (by obtain ⟨_, _, e, h1, h2⟩ := own_form4 O4.out; cases e; exact h2) (by rw [List.length_append, HTL.out]; simp; omega) (HW.out.fr ((T.out.fr).then F4.out))
              rw [show ((segB R).take n ++ [junk]).length = n + 1 by rw [List.length_append, HTL.out]; rfl] at hsc
              unfold Scanned at hsc
              rw [hts] at hsc
              clear hts hyn
              go_wp2_with (fail)
              refine hsc.mono ?_
              rintro e w5 ⟨A5, c5, A6, c6, LL, rfl, hLL, hD, f5⟩
              have hlen : LL.length = j := by have := congrArg List.length hLL; rw [List.length_map, List.length_take] at this; omega
              have hlt5 : (R.take j).length = j := by rw [List.length_take]; omega
              have hRD := hD.rd
              rw [hLL] at hRD
              have hZ5 : RdZ w5 A6 ((endZ R).take j) := by rw [← endZ_take]; exact RdZ.own (n := (R.take j).length) (c := c6) hD.ends
              have hzl : ((endZ R).take j).length = j := by rw [List.length_take, HEL.out]; omega
              have F5 := Lib.hid (F4.out.then f5)
              have hsd := fun W (G : Fr NoB w5 W) => samess_calls A5 AV (R.take j) c5 cV _ _ 0 wr.heap.size W (hRD.fr G (Nat.le_refl _) (fun _ _ _ x => x)) G.size ((HV.out.take j).fr (F5.out.then G) (Nat.le_refl _) (fun _ _ _ x => x)) (F5.out.then G).size (by rw [hlt5]; omega) (fun d hd => by have hr := HOKR.out d (List.mem_of_mem_take hd); exact Fine.right hr.1 hr.2.1 (fun q hq => ⟨(hr.2.2 q hq).1, by rw [(hr.2.2 q hq).2]; omega⟩))
              rw [hlt5] at hsd
              have hsi := fun W (G : Fr NoB w5 W) => samez_n A6 AU ((endZ R).take j) j c6 cU W hzl (hZ5.fr G) ((HE.out.fr (F5.out.then G)).take j) (by omega)
              have HSD := Lib.hid hsd
              have HSI := Lib.hid hsi
              rw [hlen, hlt5]
              obtain ⟨e0, he0⟩ : ∃ e0, (segB (R.take j)).length = e0 := ⟨_, rfl⟩
              rw [he0]
              have HE0 := Lib.hid he0
              have hjc : ¬ (cV : Int) < (j : Int) := by omega
              have hjc2 : ¬ (cU : Int) < (j : Int) := by omega
              clear hsd hsi hRD hZ5 hzl hD hLL hlen hlt5 hsc f5 he0 F4 O4 O3 F3
              by_cases hjz : j = 0
              · have hjp : ¬ (0 : Int) < (j : Int) := by omega
                have he : e0 = 0 := by rw [← HE0.out, hjz]; rfl
                subst he
                have hjd : decide (0 < (j : Int)) = false := decide_eq_false hjp
                clear hjz
                go_wp2_with (fail)
                refine (HSD.out w5 (Fr.refl _ _)).mono ?_
                rintro e w6 ⟨rfl, f6⟩
                go_wp2_with (fail)
                refine (HSI.out w6 f6).mono ?_
                rintro e w7 ⟨rfl, f7⟩
                go_wp2
                go_ret
                exact ⟨rfl, (T.out.fr).then (F5.out.then (f6.then f7))⟩
              · have hjp : (0 : Int) < (j : Int) := by omega
                have hjd : decide (0 < (j : Int)) = true := decide_eq_true hjp
                obtain ⟨j1, hj1⟩ : ∃ j1, j = j1 + 1 := ⟨j - 1, by omega⟩
                have hjw : wrap64 ((j : Int) - 1) = (j1 : Int) := by unfold wrap64; omega
                obtain ⟨gE, oE, hAE, hgE, hcE⟩ := HE.out (by rw [HEL.out]; omega)
                have hce := (F5.out.cell (p := ⟨gE, oE + j1, none⟩) hgE (fun x => x)).trans (hcE j1 (by rw [HEL.out]; omega))
                rw [seg_end (by omega), ← hj1, HE0.out] at hce
                have hce2 := hce
                rw [show j1 = j - 1 by omega] at hce2
                have hj1R : (j1 : Int) < (R.length : Int) := by omega
                have hj10 : (0 : Int) ≤ (j1 : Int) := by omega
                subst hAE
                clear hcE hj1 hjz
                go_wp2_with (fail)
                refine (HSD.out w5 (Fr.refl _ _)).mono ?_
                rintro e w6 ⟨rfl, f6⟩
                go_wp2_with (fail)
                refine (HSI.out w6 f6).mono ?_
                rintro e w7 ⟨rfl, f7⟩
                go_wp2
                go_ret
                exact ⟨rfl, (T.out.fr).then (F5.out.then (f6.then f7))⟩
end Go.Proofs.YtmlmbahimklfiaaDoor
