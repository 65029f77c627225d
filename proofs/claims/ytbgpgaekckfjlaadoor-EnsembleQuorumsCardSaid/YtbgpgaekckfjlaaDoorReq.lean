/-
  Req: the reference's has and Quorum; All, the program's and the reference's.
-/
import Derived.Test.YtbgpgaekckfjlaaDoorEnk
namespace Go.Proofs.YtbgpgaekckfjlaaDoor
open Go.RowKit

set_option maxHeartbeats 1600000 in
theorem rhas_calls (A : Option Addr) (l : List Int) (c lo hi : Nat) (x : Int) (w : World) (h : RdI w lo hi A l) (hl : l.length ≤ 140737488355328) :
    Calls Tryd.prog 63 #[.slice A l.length c, .int .i64 x] w fun e w' => e = .returned (.bool (l.contains x)) ∧ ∃ n, w' = w.drewN n := by
  have hll : (l.length : Int) ≤ 140737488355328 := by omega
  go_enter Tryd.func63, Tryd.ntmps63
  go_wp2
  go_loopw [5] (fun i wr => ∃ k : Nat, k ≤ l.length ∧ i = .int .i64 (k : Int) ∧ (l.take k).contains x = false ∧ ∃ n, wr = w.drewN n) (fun i _ => l.length - (intOf i).toNat)
  case atStart => exact ⟨0, Nat.zero_le _, rfl, by simp, 0, rfl⟩
  case round =>
    obtain ⟨k, hk, rfl, htk, n, rfl⟩ := hrel
    have HT := Lib.hid htk
    clear htk
    by_cases hlt : k < l.length
    · obtain ⟨b, o, rfl, -, -, h0⟩ := h (by omega)
      have hc := h0 k hlt
      have HG := Lib.hid (show l.getD k 0 = l[k] by simp [List.getD, hlt])
      clear h h0
      generalize l.getD k 0 = y at hc HG
      have hi1 : (k : Int) < (l.length : Int) := by omega
      have HK := Lib.hid hlt
      by_cases hxy : y = x
      · subst hxy
        go_wp2
        go_ret
        have hm : y ∈ l := by rw [HG.out]; exact List.getElem_mem _
        refine ⟨ret_bool (by simp [hm]), n, rfl⟩
      · have hb : (y == x) = false := by simp [hxy]
        have HX := Lib.hid hxy
        clear hxy
        go_wp2
        go_roundw
        case rel =>
          refine ⟨k + 1, by omega, by go_num, ?_, n, rfl⟩
          have h1 := HT.out
          have h2 := HX.out
          rw [List.take_succ_eq_append_getElem HK.out, ← HG.out]
          simp at h1 ⊢
          exact ⟨h1, fun e => h2 e.symm⟩
        case measure => simp [intOf]; omega
    · obtain rfl : k = l.length := by omega
      have h1 := HT.out
      rw [List.take_length] at h1
      have H1 := Lib.hid h1
      clear h hlt hk h1 HT
      go_wp2
      go_ret
      exact ⟨ret_bool H1.out.symm, n, rfl⟩

/-- What the reference adds up for group g. -/
def pA (g : Nat) (m : Mem) : Bool := m.2.1 == 1 && m.2.2.2 == (g : Int)
def pS (ids : List Int) (g : Nat) (m : Mem) : Bool := pA g m && ids.contains m.1
theorem pA_all {ms : List Mem} (h : ∀ m ∈ ms, GoodM m) (g : Nat) : wSum (pA g) ms = allG ms g := by
  refine wSum_eq h _ _ fun m hm h0 => ?_
  have := h m hm
  unfold GoodM at this
  have h1 : m.2.1 = 1 := by omega
  simp [pA, h1]
theorem pS_some {ms : List Mem} (h : ∀ m ∈ ms, GoodM m) (ids : List Int) (g : Nat) : wSum (pS ids g) ms = someG ids ms g := by
  refine wSum_eq h _ _ fun m hm h0 => ?_
  have := h m hm
  unfold GoodM at this
  have h1 : m.2.1 = 1 := by omega
  simp [pS, pA, h1]
theorem some_all {ms : List Mem} (h : ∀ m ∈ ms, GoodM m) (ids : List Int) (g : Nat) : someG ids ms g ≤ allG ms g :=
  wSum_le h _ _ fun m _ _ hp => by simp only [Bool.and_eq_true] at hp; exact hp.1
theorem wSum_range {ms : List Mem} (h : ∀ m ∈ ms, GoodM m) (p : Mem → Bool) : 0 ≤ wSum p ms ∧ wSum p ms ≤ 1000 * (ms.length : Int) := by
  refine ⟨wSum_nonneg h p, ?_⟩
  induction ms with
  | nil => simp [wSum]
  | cons m l ih =>
    have := ih fun x hx => h x (by simp [hx])
    have hm := h m (by simp)
    unfold GoodM at hm
    unfold wSum
    rw [List.length_cons]
    split <;> omega

set_option maxRecDepth 8000 in
set_option maxHeartbeats 6400000 in
theorem rquorum_calls (v : Int) (A : Option Addr) (ms : List Mem) (c lo hi : Nat) (B : Option Addr) (ids : List Int) (d lo' hi' : Nat) (w : World) (h : RdM w lo hi A ms) (hh : hi ≤ w.heap.size) (h' : RdI w lo' hi' B ids) (hh' : hi' ≤ w.heap.size) (hl : ms.length ≤ 140737488355328) (hl' : ids.length ≤ 140737488355328) :
    Calls Tryd.prog 31 #[.agg #[.int .i64 v, .slice A ms.length c], .slice B ids.length d] w fun e w' => e = .returned (.bool (quo v ms ids)) ∧ Fr NoB w w' := by
  have HCK := Lib.hid (fun W (f : Fr NoB w W) => rcheck_calls v A ms c lo hi W (h.fr f hh (fun _ _ _ x => x)) (Nat.le_trans hh f.size) hl)
  have HH := Lib.hid (fun W (x : Int) (f : Fr NoB w W) => rhas_calls B ids d lo' hi' x W (h'.fr f hh' (fun _ _ _ x => x)) hl')
  have HM := Lib.hid h
  clear h h'
  go_enter Tryd.func31, Tryd.ntmps31
  go_wp2_with (fail)
  have F0 := Lib.hid ((Fr.refl NoB w).alloc (.cells #[.int .i64 v, .slice A ms.length c] 25))
  have HBX := Lib.hid (heap_alloc_new w (.cells #[.int .i64 v, .slice A ms.length c] 25))
  generalize w.alloc (.cells #[.int .i64 v, .slice A ms.length c] 25) = wb at F0 HBX ⊢
  refine (HCK.out _ F0.out).mono ?_
  rintro e w1 ⟨rfl, f1⟩
  have F1 := Lib.hid (F0.out.then f1)
  have HB1 := Lib.hid (f1.at_ HBX.out (fun x => x))
  clear f1 F0 HBX HCK
  by_cases hck : chk v ms = 0
  · have hg := chk_good hck
    have h7 : ms.length ≤ 7 := by
      by_cases h8 : 7 < ms.length
      · rw [chk_long h8] at hck; cases hck
      · omega
    have h7i : (ms.length : Int) ≤ 7 := by omega
    have hq : quo v ms ids = quoL ms ids := by unfold quo; rw [hck]; rfl
    have HQ := Lib.hid hq
    have HG := Lib.hid hg
    rw [hck]
    clear hq hg hck
    go_wp2
    go_loopw [5, 6, 7, 8, 9, 10, 11] (fun s5 s6 s7 s8 s9 s10 s11 wr => ∃ k : Nat, k ≤ 7 ∧ s7 = .int .i64 (k : Int) ∧ s5 = .int .i64 (cnt (fullG ms) k) ∧ s6 = .int .i64 (cnt (wins ids ms) k) ∧ Fr NoB w1 wr) (fun _ _ s7 _ _ _ _ _ => 7 - (intOf s7).toNat)
    case atStart => exact ⟨0, by omega, rfl, rfl, rfl, Fr.refl NoB w1⟩
    case round =>
      obtain ⟨k, hk, rfl, rfl, rfl, hf⟩ := hrel
      have FR := Lib.hid hf
      clear hf
      have cb1 := cnt_bound (fullG ms) k
      have cb2 := cnt_bound (wins ids ms) k
      have cs1 : cnt (fullG ms) (k + 1) = cnt (fullG ms) k + (if fullG ms k then 1 else 0) := rfl
      have cs2 : cnt (wins ids ms) (k + 1) = cnt (wins ids ms) k + (if wins ids ms k then 1 else 0) := rfl
      have CS1 := Lib.hid cs1
      have CS2 := Lib.hid cs2
      have hql : k = 7 → quoL ms ids = decide (cnt (fullG ms) k < 2 * cnt (wins ids ms) k) := by rintro rfl; rfl
      have HQL := Lib.hid hql
      clear cs1 cs2 hql
      generalize cnt (fullG ms) k = G at cb1 CS1 HQL ⊢
      generalize cnt (wins ids ms) k = W at cb2 CS2 HQL ⊢
      by_cases hlt : k < 7
      · have hki : (k : Int) < 7 := by omega
        clear HQL
        obtain ⟨wo, hwo⟩ : ∃ wo : World, wo = wr := ⟨_, rfl⟩
        go_wp2
        go_loopw [8, 9, 10, 11] (fun s8 s9 s10 s11 wr2 => ∃ j : Nat, j ≤ ms.length ∧ s10 = .int .i64 (j : Int) ∧ s8 = .int .i64 (wSum (pA k) (ms.take j)) ∧ s9 = .int .i64 (wSum (pS ids k) (ms.take j)) ∧ Fr NoB w1 wr2) (fun _ _ s10 _ _ => ms.length - (intOf s10).toNat)
        case atStart => exact ⟨0, by omega, rfl, rfl, rfl, FR.out⟩
        case round =>
          obtain ⟨j, hj, rfl, rfl, rfl, hf2⟩ := hrel
          have FI := Lib.hid hf2
          clear hf2
          have hb1 := (cfg_cells (FI.out.at_ HB1.out (fun x => x))).2
          have w1r := wSum_range (fun m hm => HG.out m (List.mem_of_mem_take (i := j) hm)) (pA k)
          have w2r := wSum_range (fun m hm => HG.out m (List.mem_of_mem_take (i := j) hm)) (pS ids k)
          rw [List.length_take] at w1r w2r
          by_cases hlj : j < ms.length
          · have hji : (j : Int) < (ms.length : Int) := by omega
            obtain ⟨b, o, rfl, hb1', hb2', hcs⟩ := HM.out (by omega)
            obtain ⟨d0, d1, d2, d3⟩ := hcs j ms[j] (List.getElem?_eq_getElem hlj)
            have hgm := HG.out ms[j] (List.getElem_mem hlj)
            have e1 := wSum_snoc (pA k) (ms.take j) ms[j]
            have e2 := wSum_snoc (pS ids k) (ms.take j) ms[j]
            rw [← List.take_succ_eq_append_getElem hlj] at e1 e2
            clear hcs
            generalize ms[j] = m at d0 d1 d2 d3 hgm e1 e2
            obtain ⟨m0, m1, m2, m3⟩ := m
            simp only at d0 d1 d2 d3
            unfold GoodM at hgm
            simp only at hgm e1 e2
            have FB := Lib.hid (F1.out.then FI.out)
            have c0 := (FB.out.cell (p := ⟨b, o + j * 4, none⟩) (by simp only; omega) (fun x => x)).trans d0
            have c1 := (FB.out.cell (p := ⟨b, o + j * 4 + 1, none⟩) (by simp only; omega) (fun x => x)).trans d1
            have c2 := (FB.out.cell (p := ⟨b, o + j * 4 + 2, none⟩) (by simp only; omega) (fun x => x)).trans d2
            have c3 := (FB.out.cell (p := ⟨b, o + j * 4 + 3, none⟩) (by simp only; omega) (fun x => x)).trans d3
            have hm2 : 0 ≤ m2 ∧ m2 ≤ 1000 := by omega
            have HE1 := Lib.hid e1
            have HE2 := Lib.hid e2
            clear d0 d1 d2 d3 hgm e1 e2
            generalize wSum (pA k) (ms.take j) = a at w1r HE1 ⊢
            generalize wSum (pS ids k) (ms.take j) = s at w2r HE2 ⊢
            have hpa : pA k (m0, m1, m2, m3) = (m1 == 1 && m3 == (k : Int)) := rfl
            have hps : pS ids k (m0, m1, m2, m3) = (pA k (m0, m1, m2, m3) && ids.contains m0) := rfl
            have HPS := Lib.hid hps
            have HPA := Lib.hid hpa
            clear hpa hps
            by_cases hp : m1 = 1 ∧ m3 = (k : Int)
            · obtain ⟨rfl, rfl⟩ := hp
              have h1 := HPA.out
              rw [show ((1 : Int) == 1 && (k : Int) == (k : Int)) = true by simp] at h1
              have h2 := HPS.out
              rw [h1, Bool.true_and] at h2
              have h3 := HE1.out
              rw [h1, if_pos rfl] at h3
              have h4 := HE2.out
              rw [h2] at h4
              have HA := Lib.hid h3
              have HSS := Lib.hid h4
              clear h1 h2 h3 h4 HPA HPS HE1 HE2
              go_wp2_with (fail)
              refine (HH.out _ m0 (FB.out.alloc (.cells #[.int .i64 m0, .int .u8 1, .int .i64 m2, .int .i64 (k : Int)] 30))).mono ?_
              rintro e w4 ⟨rfl, n4, rfl⟩
              have K4 := Lib.hid ((FI.out.alloc (.cells #[.int .i64 m0, .int .u8 1, .int .i64 m2, .int .i64 (k : Int)] 30)).drewN n4)
              have nx0 := bx_keep (w := wr) (cs := #[.int .i64 m0, .int .u8 1, .int .i64 m2, .int .i64 (k : Int)]) (t := 30) (fr := (0, 0)) ((Fr.refl NoB _).drewN n4) 2 (.int .i64 m2) rfl
              cases hct : ids.contains m0
              · have h4 := HSS.out
                rw [hct] at h4
                simp only [Bool.false_eq_true, if_false, Int.add_zero] at h4
                have HS4 := Lib.hid h4
                clear h4 hct c0 c1 c2 c3
                go_wp2
                go_roundw
                case rel => exact ⟨j + 1, by omega, by go_num, by rw [HA.out], by rw [HS4.out], K4.out⟩
                case measure => simp [intOf]; omega
              · have h4 := HSS.out
                rw [hct, if_pos rfl] at h4
                have HS4 := Lib.hid h4
                clear h4 hct c0 c1 c2 c3
                go_wp2
                go_roundw
                case rel => exact ⟨j + 1, by omega, by go_num, by rw [HA.out], by rw [HS4.out], K4.out⟩
                case measure => simp [intOf]; omega
            · have h1 := HPA.out
              rw [show (m1 == 1 && m3 == (k : Int)) = false by rw [Bool.eq_false_iff]; intro hx; rw [Bool.and_eq_true, beq_iff_eq, beq_iff_eq] at hx; exact hp hx] at h1
              have h2 := HPS.out
              rw [h1, Bool.false_and] at h2
              have h3 := HE1.out
              rw [h1] at h3
              have h4 := HE2.out
              rw [h2] at h4
              simp only [Bool.false_eq_true, if_false, Int.add_zero] at h3 h4
              have HA := Lib.hid h3
              have HSS := Lib.hid h4
              have HP := Lib.hid hp
              clear h1 h2 h3 h4 HPA HPS HE1 HE2 hp
              have K4 := Lib.hid (FI.out.alloc (.cells #[.int .i64 m0, .int .u8 m1, .int .i64 m2, .int .i64 m3] 30))
              by_cases h11 : m1 = 1
              · subst h11
                have h3k : (m3 == (k : Int)) = false := by rw [beq_eq_false_iff_ne]; exact fun x => HP.out ⟨rfl, x⟩
                go_wp2
                go_roundw
                case rel => exact ⟨j + 1, by omega, by go_num, by rw [HA.out], by rw [HSS.out], K4.out⟩
                case measure => simp [intOf]; omega
              · have h1b : (m1 == 1) = false := by rw [beq_eq_false_iff_ne]; exact h11
                clear h11
                go_wp2
                go_roundw
                case rel => exact ⟨j + 1, by omega, by go_num, by rw [HA.out], by rw [HSS.out], K4.out⟩
                case measure => simp [intOf]; omega
          · obtain rfl : j = ms.length := by omega
            have h1 := pA_all HG.out k
            have h2 := pS_some HG.out ids k
            have h3 := some_all HG.out ids k
            rw [List.take_length] at w1r w2r ⊢
            have hful : fullG ms k = decide (0 < allG ms k) := rfl
            have hwin : wins ids ms k = decide (allG ms k < 2 * someG ids ms k) := rfl
            rw [h1] at w1r ⊢
            rw [h2] at w2r ⊢
            have HF := Lib.hid hful
            have HW := Lib.hid hwin
            clear h1 h2 hful hwin
            generalize allG ms k = a at w1r h3 HF HW ⊢
            generalize someG ids ms k = s at w2r h3 HW ⊢
            by_cases ha : 0 < a
            · have h4 := CS1.out
              rw [HF.out, if_pos (by simp [ha])] at h4
              by_cases hs : a < 2 * s
              · have h5 := CS2.out
                rw [HW.out, if_pos (by simp [hs])] at h5
                have H4 := Lib.hid h4
                have H5 := Lib.hid h5
                clear h4 h5 CS1 CS2 HF HW
                go_wp2
                go_roundw
                case rel => exact ⟨k + 1, by omega, by go_num, by rw [H4.out], by rw [H5.out], FI.out⟩
                case measure => simp [intOf]; omega
              · have h5 := CS2.out
                rw [HW.out, if_neg (by simp; omega), Int.add_zero] at h5
                have H4 := Lib.hid h4
                have H5 := Lib.hid h5
                have hs2 : 2 * s ≤ a := by omega
                clear h4 h5 CS1 CS2 HF HW hs
                go_wp2
                go_roundw
                case rel => exact ⟨k + 1, by omega, by go_num, by rw [H4.out], by rw [H5.out], FI.out⟩
                case measure => simp [intOf]; omega
            · have h4 := CS1.out
              rw [HF.out, if_neg (by simp; omega), Int.add_zero] at h4
              have h5 := CS2.out
              rw [HW.out, if_neg (by simp; omega), Int.add_zero] at h5
              have H4 := Lib.hid h4
              have H5 := Lib.hid h5
              have ha2 : a ≤ 0 := by omega
              clear h4 h5 CS1 CS2 HF HW ha
              go_wp2
              go_roundw
              case rel => exact ⟨k + 1, by omega, by go_num, by rw [H4.out], by rw [H5.out], FI.out⟩
              case measure => simp [intOf]; omega
      · obtain rfl : k = 7 := by omega
        have hql := HQL.out rfl
        have HQ2 := Lib.hid (HQ.out.trans hql)
        clear hql HQL HQ CS1 CS2
        go_wp2
        go_ret
        exact ⟨by rw [HQ2.out]; rfl, F1.out.then FR.out⟩
  · have hb : (chk v ms != 0) = true := by simp [hck]
    have hq : quo v ms ids = false := by unfold quo; rw [beq_eq_false_iff_ne.2 hck]; rfl
    have HQ := Lib.hid hq
    have hb2 : ((chk v ms : Int) == 0) = false := by simp [hck]
    clear hck hq
    go_wp2
    go_ret
    exact ⟨by rw [HQ.out]; rfl, F1.out⟩

end Go.Proofs.YtbgpgaekckfjlaaDoor
