/-
  Enj: EnsembleGrows's walk.
-/
import Derived.Test.YtbgpgaekckfjlaaDoorEnh
namespace Go.Proofs.YtbgpgaekckfjlaaDoor
open Go.RowKit

def votersL (ms : List Mem) : List Int := (ms.filter fun m => m.2.1 == 1).map fun m => m.1
def partL (ids : List Int) (ms : List Mem) : List Int := (ms.filter fun m => m.2.1 == 1 && ids.contains m.1).map fun m => m.1
theorem voters_snoc (l : List Mem) (m : Mem) : votersL (l ++ [m]) = votersL l ++ (if m.2.1 = 1 then [m.1] else []) := by
  unfold votersL
  rw [List.filter_append, List.map_append]
  by_cases h : m.2.1 = 1 <;> simp [h]
theorem part_snoc (ids : List Int) (l : List Mem) (m : Mem) : partL ids (l ++ [m]) = partL ids l ++ (if m.2.1 = 1 ∧ ids.contains m.1 = true then [m.1] else []) := by
  unfold partL
  rw [List.filter_append, List.map_append]
  by_cases h : m.2.1 = 1 <;> by_cases h2 : m.1 ∈ ids <;> simp [h, h2]
theorem voters_len (l : List Mem) : (votersL l).length ≤ l.length := by
  unfold votersL
  rw [List.length_map]
  exact List.length_filter_le _ _
theorem part_len (ids : List Int) (l : List Mem) : (partL ids l).length ≤ l.length := by
  unfold partL
  rw [List.length_map]
  exact List.length_filter_le _ _
theorem quo_voters (v : Int) (ms : List Mem) : quo v ms (votersL ms) = (chk v ms == 0) := quo_all _ fun m hm h1 => by
  rw [List.contains_iff_mem]
  exact List.mem_map.2 ⟨m, List.mem_filter.2 ⟨hm, by simp [h1]⟩, rfl⟩
theorem quo_part (v : Int) (ms : List Mem) (ids : List Int) : quo v ms (partL ids ms) = quo v ms ids := by
  cases hc : chk v ms == 0
  · unfold quo; rw [hc]; rfl
  · have hg := chk_good (eq_of_beq hc)
    refine quo_same _ _ fun m hm h0 => ?_
    have hgm := hg m hm
    unfold GoodM at hgm
    rw [Bool.eq_iff_iff, List.contains_iff_mem, List.contains_iff_mem]
    constructor
    · intro h
      obtain ⟨x, hx, he⟩ := List.mem_map.1 h
      have h2 := (List.mem_filter.1 hx).2
      simp at h2
      rw [← he]; exact h2.2
    · intro h
      exact List.mem_map.2 ⟨m, List.mem_filter.2 ⟨hm, by simp [h]; omega⟩, rfl⟩
theorem quo_both (v : Int) (ms : List Mem) (ids more : List Int) (h : quo v ms ids = true) : quo v ms (ids ++ more) = true :=
  quo_more _ _ (fun x hx => by rw [List.contains_iff_mem] at hx ⊢; exact List.mem_append.2 (.inl hx)) h
theorem quo_chk {v : Int} {ms : List Mem} {ids : List Int} (h : quo v ms ids = true) : (chk v ms == 0) = true := by
  unfold quo at h
  rw [Bool.and_eq_true] at h
  exact h.1
theorem info_int : (Tryd.prog.info? 3).map (fun i => (i.zero, i.size, i.bytes)) = some (some (.int .i64 0), 1, 8) := by kernel_rfl

/-- Two rows of numbers that the call makes, apart from one another. -/
structure TwoI (wx w : World) (V P : Value) (l q : List Int) : Prop where
  fr : Fr NoB wx w
  a : w.ownsRow wx.heap.size 3 1 V l.length (iv l)
  b : w.ownsRow wx.heap.size 3 1 P q.length (iv q)
  x : ∀ g, V.ownBlock = some g → P.ownBlock ≠ some g
theorem TwoI.keep {wx w w' : World} {V P : Value} {l q : List Int} (h : TwoI wx w V P l q) (f : Fr NoB w w') : TwoI wx w' V P l q :=
  ⟨h.fr.then f, own_keep h.a fun g hg => f.block g (h.a.lt g hg).2 (fun x => x), own_keep h.b fun g hg => f.block g (h.b.lt g hg).2 (fun x => x), h.x⟩
theorem TwoI.pushA {wx w w' : World} {V V' P : Value} {l q : List Int} {x : Int} {o : Obj} (h : TwoI wx w V P l q) (hA : App wx.heap.size 3 1 V (l.length + 1) (iv l ++ iv [x]) (w.alloc o) V' w') : TwoI wx w' V' P (l ++ [x]) q where
  fr := (h.fr.alloc o).upE hA.fr fun k hk => (h.a.lt k hk).1
  a := by have := hA.own; rw [← iv_append] at this; rw [List.length_append]; exact this
  b := own_keep (own_keep h.b fun g hg => (Below.heap_alloc w o g (h.b.lt g hg).2)) fun g hg => hA.fr.block g (by have := (h.b.lt g hg).2; simp; omega) (fun hv => h.x g hv hg)
  x := fun g hg hp => by
    rcases hA.at_ with e | e
    · exact h.x g (e ▸ hg) hp
    · rw [e] at hg; cases hg
      have := (h.b.lt _ hp).2
      simp at this
      omega
theorem TwoI.pushB {wx w w' : World} {V P P' : Value} {l q : List Int} {x : Int} {o : Obj} (h : TwoI wx w V P l q) (hA : App wx.heap.size 3 1 P (q.length + 1) (iv q ++ iv [x]) (w.alloc o) P' w') : TwoI wx w' V P' l (q ++ [x]) where
  fr := (h.fr.alloc o).upE hA.fr fun k hk => (h.b.lt k hk).1
  b := by have := hA.own; rw [← iv_append] at this; rw [List.length_append]; exact this
  a := own_keep (own_keep h.a fun g hg => (Below.heap_alloc w o g (h.a.lt g hg).2)) fun g hg => hA.fr.block g (by have := (h.a.lt g hg).2; simp; omega) (fun hv => h.x g hg hv)
  x := fun g hg hp => by
    rcases hA.at_ with e | e
    · exact h.x g hg (e ▸ hp)
    · rw [e] at hp; cases hp
      have := (h.a.lt _ hg).2
      simp at this
      omega

set_option maxRecDepth 8000 in
set_option maxHeartbeats 6400000 in
theorem grows_walk (v : Int) (A D D' : Option Addr) (ms : List Mem) (a b : List Int) (c d d' : Nat) (w : World) (h : RdM w 0 w.heap.size A ms) (h1 : RdI w 0 w.heap.size D a) (hl1 : a.length ≤ 140737488355328) (h2 : RdI w 0 w.heap.size D' b) (hl2 : b.length ≤ 140737488355328) :
    Calls Tryd.prog 6 #[.agg #[.int .i64 v, .slice A ms.length c], .slice D a.length d, .slice D' b.length d'] w fun e w' => e = .returned (.bool true) ∧ Fr NoB w w' := by
  have hla : (a.length : Int) ≤ 140737488355328 := by omega
  have hlb : (b.length : Int) ≤ 140737488355328 := by omega
  have hwl : IntKind.i64.wrap ((a.length : Int) + (b.length : Int)) = (a.length : Int) + (b.length : Int) := by rw [IntKind.wrap_i64]; omega
  have HM := Lib.hid h
  have H1 := Lib.hid h1
  have H2 := Lib.hid h2
  clear h h1 h2
  obtain ⟨i0, hi0, hz0, hz1, hz2⟩ := info_parts info_int
  go_enter Tryd.func6, Tryd.ntmps6
  go_wp2_with (fail)
  have F0 := Lib.hid ((Fr.refl NoB w).alloc (.cells #[.int .i64 v, .slice A ms.length c] 25))
  have HBX := Lib.hid (heap_alloc_new w (.cells #[.int .i64 v, .slice A ms.length c] 25))
  generalize w.alloc (.cells #[.int .i64 v, .slice A ms.length c] 25) = wb at F0 HBX ⊢
  refine (awake_calls _).mono ?_
  rintro e w1 ⟨rfl, f1⟩
  have F1 := Lib.hid f1
  clear f1
  have hq0 := (cfg_cells (F1.out.at_ HBX.out (fun x => x))).1
  have hq1 := (cfg_cells (F1.out.at_ HBX.out (fun x => x))).2
  by_cases hbig : (1000 : Int) < (a.length : Int) + (b.length : Int)
  · go_wp2
    go_ret
    exact ⟨rfl, F0.out.then F1.out⟩
  · have hsm : (a.length : Int) + (b.length : Int) ≤ 1000 := by omega
    clear hbig
    by_cases h7 : 7 < ms.length
    · have h7i : (7 : Int) < (ms.length : Int) := by omega
      go_wp2
      go_ret
      exact ⟨rfl, F0.out.then F1.out⟩
    · have h7i : (ms.length : Int) ≤ 7 := by omega
      have HMA := Lib.hid (fun W (f : Fr NoB w W) (ids : List Int) B c2 lo hi (r : RdI W lo hi B ids) (hh : hi ≤ W.heap.size) (hl : ids.length ≤ 140737488355328) => quorum_calls v A ms c 0 w.heap.size B ids c2 lo hi W (HM.out.fr f (Nat.le_refl _) (fun _ _ _ x => x)) f.size (by omega) r hh hl)
      have HCK := Lib.hid (fun W (f : Fr NoB w W) => check_calls v A ms c 0 w.heap.size W (HM.out.fr f (Nat.le_refl _) (fun _ _ _ x => x)) f.size (by omega))
      have HHS := Lib.hid (fun W (x : Int) (f : Fr NoB w W) => has_calls D a d 0 w.heap.size x W (H1.out.fr f (Nat.le_refl _) (fun _ _ _ x => x)) hl1)
      clear h7
      go_wp2_with (at_builtin; go_loud (refine wpList_append_src _ rfl _ _ 45 rfl w1.heap.size 3 i0 (.int .i64 0) 1 8 Tryd.underlying45 hi0 hz0 hz1 hz2 rfl (by decide) _ 0 [] rfl (World.ownsRow_lit w1 #[] 0 (Nat.le_refl _) (by decide) rfl) D a.length d (iv a) rfl (by simp) (H1.out.fr ((F0.out.then F1.out).alloc _) (Nat.le_refl _) (fun _ _ _ x => x)).srcs (iv_one a) (by unfold maxLen; omega) (by omega) (by simp) ?_))
      intro v2 w2 hA1
      have o2 : w2.ownsRow w1.heap.size 3 1 v2 a.length (iv a) := by have h := hA1.own; first | exact h | simpa using h
      have F2 := Lib.hid ((F1.out.alloc (.cells #[] 3)).upE hA1.fr fun k hk => by cases hk; exact F1.out.size)
      have HO2 := Lib.hid o2
      have HS2 := Lib.hid (Nat.le_trans (show w1.heap.size ≤ (w1.alloc (.cells #[] 3)).heap.size by simp) hA1.fr.size)
      clear hA1 o2
      go_wp2_with (at_builtin; go_loud (refine wpList_append_src _ rfl _ _ 45 rfl w1.heap.size 3 i0 (.int .i64 0) 1 8 Tryd.underlying45 hi0 hz0 hz1 hz2 rfl (by decide) v2 a.length (iv a) rfl HO2.out D' b.length d' (iv b) rfl (by simp) (H2.out.fr (F0.out.then F2.out) (Nat.le_refl _) (fun _ _ _ x => x)).srcs (iv_one b) (by unfold maxLen; omega) (by omega) HS2.out ?_))
      intro v3 w3 hA2
      have o3 := hA2.own
      rw [← iv_append] at o3
      have F3 := Lib.hid (F2.out.upE hA2.fr fun k hk => Nat.le_trans F1.out.size (HO2.out.lt k hk).1)
      obtain ⟨A3, c3, hv3, -, -⟩ := own_form4 o3
      subst hv3
      have R3 := Lib.hid (own_rdi (l := a ++ b) (by rw [List.length_append]; exact o3))
      have hb1 := (cfg_cells (F3.out.at_ HBX.out (fun x => x))).2
      clear hA2 o3 HO2 HS2 F2
      go_wp2
      go_loopw [8, 9, 10] (fun x y i wr => ∃ (k : Nat) (V P : Value), k ≤ ms.length ∧ i = .int .i64 (k : Int) ∧ V = x ∧ P = y ∧ TwoI w3 wr V P (votersL (ms.take k)) (partL a (ms.take k))) (fun _ _ i _ => ms.length - (intOf i).toNat)
      case atStart => exact ⟨0, .slice none 0 0, .slice none 0 0, Nat.zero_le _, rfl, rfl, rfl, Fr.refl NoB w3, World.ownsRow_nil _ _ _ _, World.ownsRow_nil _ _ _ _, fun g hg => by cases hg⟩
      case round =>
        obtain ⟨k, V, P, hk, rfl, rfl, rfl, ht⟩ := hrel
        have TW := Lib.hid ht
        clear ht hb1
        by_cases hlt : k < ms.length
        · obtain ⟨bb, o, rfl, hb1, hb2, hcs⟩ := HM.out (by omega)
          obtain ⟨d0, d1, d2, d3⟩ := hcs k ms[k] (List.getElem?_eq_getElem hlt)
          have hts : ms.take (k + 1) = ms.take k ++ [ms[k]] := by rw [List.take_add_one, List.getElem?_eq_getElem hlt]; rfl
          clear hcs d2 d3
          generalize ms[k] = m at d0 d1 hts
          obtain ⟨m0, m1, m2, m3⟩ := m
          simp only at d0 d1
          have hv1 := voters_snoc (ms.take k) (m0, m1, m2, m3)
          have hp1 := part_snoc a (ms.take k) (m0, m1, m2, m3)
          rw [← hts] at hv1 hp1
          simp only at hv1 hp1
          have hvl := voters_len (ms.take k)
          have hpl := part_len a (ms.take k)
          rw [List.length_take] at hvl hpl
          have HV1 := Lib.hid hv1
          have HP1 := Lib.hid hp1
          have HVL := Lib.hid hvl
          have HPL := Lib.hid hpl
          have FW := Lib.hid (fun W (f : Fr NoB w3 W) => (F0.out.then F3.out).then f)
          have hi2 : (k : Int) < (ms.length : Int) := by omega
          have HE0 := Lib.hid (fun W (f : Fr NoB w3 W) => ((FW.out W f).cell (p := ⟨bb, o + k * 4, none⟩) (by simp only; omega) (fun x => x)).trans d0)
          have HE1 := Lib.hid (fun W (f : Fr NoB w3 W) => ((FW.out W f).cell (p := ⟨bb, o + k * 4 + 1, none⟩) (by simp only; omega) (fun x => x)).trans d1)
          have HEC := Lib.hid (fun W (f : Fr NoB w3 W) => (cfg_cells ((F3.out.then f).at_ HBX.out (fun x => x))).2)
          have e0 := HE0.out _ TW.out.fr
          have e1 := HE1.out _ TW.out.fr
          have ec := HEC.out _ TW.out.fr
          clear d0 d1 hts hv1 hp1 hvl hpl
          generalize votersL (ms.take k) = l at TW HV1 HVL
          generalize partL a (ms.take k) = q at TW HP1 HPL
          by_cases h11 : m1 = 1
          · subst h11
            have hv1 := HV1.out
            rw [if_pos rfl] at hv1
            have HV1 := Lib.hid hv1
            clear hv1
            have hsrc : ∀ (t : TypeId) (j : Nat) (u : Value), (iv [m0])[j]? = some u → (wr.alloc (.cells #[.int .i64 m0] t)).cell? ((⟨wr.heap.size, 0, none⟩ : Addr).add j) = some u := fun t j u hj => by
              obtain ⟨ad, g1, g2⟩ := src_block wr #[.int .i64 m0] t (iv [m0]) rfl
              cases g1
              exact g2 j u hj
            have HSRC := Lib.hid hsrc
            clear hsrc
            go_wp2_with (at_builtin; go_loud (refine wpList_append_src _ rfl _ _ 45 rfl w3.heap.size 3 i0 (.int .i64 0) 1 8 Tryd.underlying45 hi0 hz0 hz1 hz2 rfl (by decide) V l.length (iv l) rfl (TW.out.a.alloc _) _ 1 _ (iv [m0]) rfl rfl (fun _ => ⟨_, rfl, HSRC.out _⟩) (iv_one _) (by have := HVL.out; unfold maxLen; omega) (by have := HVL.out; omega) (by have := TW.out.fr.size; simp; omega) ?_))
            intro V2 w4 hA
            have T4 := Lib.hid (TW.out.pushA hA)
            clear hA e0 e1 ec HSRC TW
            have e0 := HE0.out _ T4.out.fr
            have ec := HEC.out _ T4.out.fr
            go_wp2_with (fail)
            refine (HHS.out _ m0 (FW.out _ T4.out.fr)).mono ?_
            rintro e w5 ⟨rfl, n5, rfl⟩
            have T5 := Lib.hid (T4.out.keep ((Fr.refl NoB w4).drewN n5))
            generalize w4.drewN n5 = w5 at T5 ⊢
            clear e0 ec T4
            cases hct : a.contains m0
            · have hp1 := HP1.out
              rw [if_neg (fun x => by rw [hct] at x; simp at x), List.append_nil] at hp1
              have HP1 := Lib.hid hp1
              clear hp1 hct
              go_wp2
              go_roundw
              case rel => exact ⟨k + 1, _, _, by omega, by go_num, rfl, rfl, by rw [HV1.out, HP1.out]; exact T5.out⟩
              case measure => simp [intOf]; omega
            · have hp1 := HP1.out
              rw [if_pos ⟨trivial, hct⟩] at hp1
              have HP1 := Lib.hid hp1
              clear hp1 hct
              have e0 := HE0.out _ T5.out.fr
              have ec := HEC.out _ T5.out.fr
              have hsrc : ∀ (t : TypeId) (j : Nat) (u : Value), (iv [m0])[j]? = some u → (w5.alloc (.cells #[.int .i64 m0] t)).cell? ((⟨w5.heap.size, 0, none⟩ : Addr).add j) = some u := fun t j u hj => by
                obtain ⟨ad, g1, g2⟩ := src_block w5 #[.int .i64 m0] t (iv [m0]) rfl
                cases g1
                exact g2 j u hj
              have HSRC := Lib.hid hsrc
              clear hsrc
              go_wp2_with (at_builtin; go_loud (refine wpList_append_src _ rfl _ _ 45 rfl w3.heap.size 3 i0 (.int .i64 0) 1 8 Tryd.underlying45 hi0 hz0 hz1 hz2 rfl (by decide) P q.length (iv q) rfl (T5.out.b.alloc _) _ 1 _ (iv [m0]) rfl rfl (fun _ => ⟨_, rfl, HSRC.out _⟩) (iv_one _) (by have := HPL.out; unfold maxLen; omega) (by have := HPL.out; omega) (by have := T5.out.fr.size; simp; omega) ?_))
              intro P2 w6 hA
              have T6 := Lib.hid (T5.out.pushB hA)
              clear hA HSRC T5 e0 ec
              go_wp2
              go_roundw
              case rel => exact ⟨k + 1, _, _, by omega, by go_num, rfl, rfl, by rw [HV1.out, HP1.out]; exact T6.out⟩
              case measure => simp [intOf]; omega
          · have hv1 := HV1.out
            rw [if_neg h11, List.append_nil] at hv1
            have hp1 := HP1.out
            rw [if_neg (fun x => h11 x.1), List.append_nil] at hp1
            have HV1 := Lib.hid hv1
            have HP1 := Lib.hid hp1
            have hb11 : (m1 == 1) = false := by simp [h11]
            clear hv1 hp1 h11
            go_wp2
            go_roundw
            case rel => exact ⟨k + 1, _, _, by omega, by go_num, rfl, rfl, by rw [HV1.out, HP1.out]; exact TW.out⟩
            case measure => simp [intOf]; omega
        · obtain rfl : k = ms.length := by omega
          have ht := TW.out
          rw [List.take_length] at ht
          obtain ⟨AV, cV, hVe, -, -⟩ := own_form4 ht.a
          obtain ⟨AP, cP, hPe, -, -⟩ := own_form4 ht.b
          subst hVe
          subst hPe
          have RV := own_rdi ht.a
          have RP := own_rdi ht.b
          have FWR := Lib.hid ((F0.out.then F3.out).then ht.fr)
          have HBR := Lib.hid ((F3.out.then ht.fr).at_ HBX.out (fun x => x))
          have hv7 := voters_len ms
          have hp7 := part_len a ms
          have hq1 := fun W (k : Fr NoB wr W) => HMA.out W (FWR.out.then k) a D d 0 w.heap.size (H1.out.fr (FWR.out.then k) (Nat.le_refl _) (fun _ _ _ x => x)) (FWR.out.then k).size hl1
          have hq2 := fun W (k : Fr NoB wr W) => HMA.out W (FWR.out.then k) (a ++ b) A3 c3 w1.heap.size w3.heap.size (R3.out.fr (ht.fr.then k) (Nat.le_refl _) (fun _ _ _ x => x)) (ht.fr.then k).size (by rw [List.length_append]; omega)
          have hq3 := fun W (k : Fr NoB wr W) => HMA.out W (FWR.out.then k) (votersL ms) AV cV w3.heap.size wr.heap.size (RV.fr k (Nat.le_refl _) (fun _ _ _ x => x)) k.size (by omega)
          have hq4 := fun W (k : Fr NoB wr W) => HMA.out W (FWR.out.then k) [] none 0 0 0 (RdI.nil _ _ _ _) (Nat.zero_le _) (by simp)
          have hq5 := fun W (k : Fr NoB wr W) => HMA.out W (FWR.out.then k) (partL a ms) AP cP w3.heap.size wr.heap.size (RP.fr k (Nat.le_refl _) (fun _ _ _ x => x)) k.size (by omega)
          have hck := fun W (k : Fr NoB wr W) => HCK.out W (FWR.out.then k)
          rw [quo_voters] at hq3
          rw [quo_nil] at hq4
          rw [quo_part] at hq5
          rw [List.length_append] at hq2
          have hb := quo_both v ms a b
          have hc := quo_chk (v := v) (ms := ms) (ids := a)
          have b0 := (cfg_cells HBR.out).1
          have b1 := (cfg_cells HBR.out).2
          have K0 := Lib.hid (Fr.refl NoB wr)
          generalize quo v ms a = q at hq1 hq5 hb hc
          generalize quo v ms (a ++ b) = q2 at hq2 hb
          obtain ⟨z, hz⟩ : ∃ z, chk v ms = z := ⟨_, rfl⟩
          rw [hz] at hck hq3 hc
          obtain ⟨R, hR⟩ : ∃ R, (z == 0) = R := ⟨_, rfl⟩
          rw [hR] at hq3 hc
          have HCK2 := Lib.hid hck
          have HQ1 := Lib.hid hq1
          have HQ2 := Lib.hid hq2
          have HQ3 := Lib.hid hq3
          have HQ4 := Lib.hid hq4
          have HQ5 := Lib.hid hq5
          generalize votersL ms = LV at HQ3 hv7 ht
          generalize partL a ms = LP at HQ5 hp7 ht
          clear hq1 hq2 hq3 hq4 hq5 hck ht RV RP TW hz hlt hk hv7 hp7 HMA HCK HHS hi0 hz0 hz1 hz2
          cases q
          · clear hb hc HQ2
            cases R
            all_goals
              go_wp2_with (fail)
              refine (HCK2.out _ K0.out).mono ?_
              rintro e x1 ⟨rfl, f1⟩
              have K1 := Lib.hid (K0.out.then f1)
              clear f1 b0 b1
              have b0 := (cfg_cells (K1.out.at_ HBR.out (fun x => x))).1
              have b1 := (cfg_cells (K1.out.at_ HBR.out (fun x => x))).2
              go_wp2_with (fail)
              refine (HQ1.out _ K1.out).mono ?_
              rintro e x2 ⟨rfl, f2⟩
              have K2 := Lib.hid (K1.out.then f2)
              clear f2 b0 b1
              have b0 := (cfg_cells (K2.out.at_ HBR.out (fun x => x))).1
              have b1 := (cfg_cells (K2.out.at_ HBR.out (fun x => x))).2
              go_wp2_with (fail)
              refine (HQ3.out _ K2.out).mono ?_
              rintro e x3 ⟨rfl, f3⟩
              have K3 := Lib.hid (K2.out.then f3)
              clear f3 b0 b1
              have b0 := (cfg_cells (K3.out.at_ HBR.out (fun x => x))).1
              have b1 := (cfg_cells (K3.out.at_ HBR.out (fun x => x))).2
              go_wp2_with (fail)
              refine (HQ4.out _ K3.out).mono ?_
              rintro e x4 ⟨rfl, f4⟩
              have K4 := Lib.hid (K3.out.then f4)
              clear f4 b0 b1
              have b0 := (cfg_cells (K4.out.at_ HBR.out (fun x => x))).1
              have b1 := (cfg_cells (K4.out.at_ HBR.out (fun x => x))).2
              go_wp2_with (fail)
              refine (HQ5.out _ K4.out).mono ?_
              rintro e x5 ⟨rfl, f5⟩
              have K5 := Lib.hid (K4.out.then f5)
              clear f5 b0 b1
              have b0 := (cfg_cells (K5.out.at_ HBR.out (fun x => x))).1
              have b1 := (cfg_cells (K5.out.at_ HBR.out (fun x => x))).2
              go_wp2
              go_ret
              exact ⟨rfl, FWR.out.then K5.out⟩
          · have hq2 := hb rfl
            have hR2 := hc rfl
            subst hq2
            subst hR2
            clear hb hc
            go_wp2_with (fail)
            refine (HCK2.out _ K0.out).mono ?_
            rintro e x1 ⟨rfl, f1⟩
            have K1 := Lib.hid (K0.out.then f1)
            clear f1 b0 b1
            have b0 := (cfg_cells (K1.out.at_ HBR.out (fun x => x))).1
            have b1 := (cfg_cells (K1.out.at_ HBR.out (fun x => x))).2
            go_wp2_with (fail)
            refine (HQ1.out _ K1.out).mono ?_
            rintro e x2 ⟨rfl, f2⟩
            have K2 := Lib.hid (K1.out.then f2)
            clear f2 b0 b1
            have b0 := (cfg_cells (K2.out.at_ HBR.out (fun x => x))).1
            have b1 := (cfg_cells (K2.out.at_ HBR.out (fun x => x))).2
            go_wp2_with (fail)
            refine (HQ2.out _ K2.out).mono ?_
            rintro e x3 ⟨rfl, f3⟩
            have K3 := Lib.hid (K2.out.then f3)
            clear f3 b0 b1
            have b0 := (cfg_cells (K3.out.at_ HBR.out (fun x => x))).1
            have b1 := (cfg_cells (K3.out.at_ HBR.out (fun x => x))).2
            go_wp2_with (fail)
            refine (HQ3.out _ K3.out).mono ?_
            rintro e x4 ⟨rfl, f4⟩
            have K4 := Lib.hid (K3.out.then f4)
            clear f4 b0 b1
            have b0 := (cfg_cells (K4.out.at_ HBR.out (fun x => x))).1
            have b1 := (cfg_cells (K4.out.at_ HBR.out (fun x => x))).2
            go_wp2_with (fail)
            refine (HQ4.out _ K4.out).mono ?_
            rintro e x5 ⟨rfl, f5⟩
            have K5 := Lib.hid (K4.out.then f5)
            clear f5 b0 b1
            have b0 := (cfg_cells (K5.out.at_ HBR.out (fun x => x))).1
            have b1 := (cfg_cells (K5.out.at_ HBR.out (fun x => x))).2
            go_wp2_with (fail)
            refine (HQ5.out _ K5.out).mono ?_
            rintro e x6 ⟨rfl, f6⟩
            have K6 := Lib.hid (K5.out.then f6)
            clear f6 b0 b1
            have b0 := (cfg_cells (K6.out.at_ HBR.out (fun x => x))).1
            have b1 := (cfg_cells (K6.out.at_ HBR.out (fun x => x))).2
            go_wp2
            go_ret
            exact ⟨rfl, FWR.out.then K6.out⟩

end Go.Proofs.YtbgpgaekckfjlaaDoor
