/-
  Enc: ensemble.Quorum.
-/
import Derived.Test.YtbgpgaekckfjlaaDoorEnb
import Derived.Deep.RegionHeld3
import Derived.StillTailTactics
namespace Go.Proofs.YtbgpgaekckfjlaaDoor
open Go.RowKit

def arrI (f : Nat → Int) : Array Value := #[.int .i64 (f 0), .int .i64 (f 1), .int .i64 (f 2), .int .i64 (f 3), .int .i64 (f 4), .int .i64 (f 5), .int .i64 (f 6)]
theorem arrI_get (f : Nat → Int) (g : Nat) (h : g < 7) : (arrI f)[g]? = some (.int .i64 (f g)) := by
  match g, h with
  | 0, _ => rfl
  | 1, _ => rfl
  | 2, _ => rfl
  | 3, _ => rfl
  | 4, _ => rfl
  | 5, _ => rfl
  | 6, _ => rfl
  | g + 7, h => omega
theorem arrI_set (f f' : Nat → Int) (g : Nat) (h : g < 7) (x : Int) (hx : f' g = x) (hf : ∀ j, j ≠ g → f' j = f j) : (arrI f).setIfInBounds g (.int .i64 x) = arrI f' := by
  subst hx
  match g, h with
  | 0, _ => simp [arrI, hf]
  | 1, _ => simp [arrI, hf]
  | 2, _ => simp [arrI, hf]
  | 3, _ => simp [arrI, hf]
  | 4, _ => simp [arrI, hf]
  | 5, _ => simp [arrI, hf]
  | 6, _ => simp [arrI, hf]
  | g + 7, h => omega
theorem wSum_snoc (p : Mem → Bool) (l : List Mem) (m : Mem) : wSum p (l ++ [m]) = wSum p l + (if p m then m.2.2.1 else 0) := by
  induction l with
  | nil => simp [wSum]
  | cons x l ih => simp only [List.cons_append, wSum, ih]; omega
theorem wSum_bound {ms : List Mem} (h : ∀ m ∈ ms, GoodM m) (p : Mem → Bool) : wSum p ms ≤ 1000 * (ms.length : Int) := by
  induction ms with
  | nil => simp [wSum]
  | cons m l ih =>
    have := ih fun x hx => h x (by simp [hx])
    have hm := h m (by simp)
    unfold GoodM at hm
    unfold wSum
    rw [List.length_cons]
    split <;> omega
theorem take_snoc {ms : List Mem} {k : Nat} {m : Mem} (h : ms[k]? = some m) : ms.take (k + 1) = ms.take k ++ [m] := by
  rw [List.take_add_one, h]; rfl
theorem cnt_bound (p : Nat → Bool) (n : Nat) : 0 ≤ cnt p n ∧ cnt p n ≤ n := by
  induction n with
  | zero => simp [cnt]
  | succ n ih => unfold cnt; split <;> omega

theorem allG_snoc (l : List Mem) (m0 m1 m2 : Int) (h g : Nat) : allG (l ++ [(m0, m1, m2, (h : Int))]) g = allG l g + (if h = g then m2 else 0) := by
  have e := wSum_snoc (fun m => m.2.2.2 == (g : Int)) l (m0, m1, m2, (h : Int))
  have e2 : ((h : Int) == (g : Int)) = decide (h = g) := by rw [Bool.eq_iff_iff]; simp; omega
  simp only [e2, decide_eq_true_eq] at e
  exact e
theorem someG_snoc (ids : List Int) (l : List Mem) (m0 m1 m2 : Int) (h g : Nat) : someG ids (l ++ [(m0, m1, m2, (h : Int))]) g = someG ids l g + (if h = g ∧ ids.contains m0 = true then m2 else 0) := by
  have e := wSum_snoc (fun m => m.2.2.2 == (g : Int) && ids.contains m.1) l (m0, m1, m2, (h : Int))
  have e2 : ((h : Int) == (g : Int)) = decide (h = g) := by rw [Bool.eq_iff_iff]; simp; omega
  simp only [e2, Bool.and_eq_true, decide_eq_true_eq] at e
  exact e
theorem set_far {w : World} {B g p i : Nat} {u v : Value} (h : w.cell? ⟨p, i, none⟩ = some v) (hne : p ≠ B) : (w.setCell ⟨B, g, none⟩ u).cell? ⟨p, i, none⟩ = some v :=
  (World.cell?_of_block (a := ⟨p, i, none⟩) (Below.heap_setCell w ⟨B, g, none⟩ u p hne)).trans h

/-- What Quorum holds of memory: the config's box, two rows of seven numbers. -/
structure QuW (w0 w : World) (v : Int) (A : Option Addr) (n c B : Nat) (f f' : Nat → Int) : Prop where
  fr : Fr NoB w0 w
  bx : w.heap[w0.heap.size]? = some (.cells #[.int .i64 v, .slice A n c] 25 (0, 0))
  a : w.heap[B]? = some (.cells (arrI f) 80 (0, 0))
  b : w.heap[B + 1]? = some (.cells (arrI f') 80 (0, 0))
  lt : w0.heap.size < B
theorem QuW.keep {w0 w w' : World} {v : Int} {A : Option Addr} {n c B : Nat} {f f' : Nat → Int} (h : QuW w0 w v A n c B f f') (k : Fr NoB w w') : QuW w0 w' v A n c B f f' :=
  ⟨h.fr.then k, k.at_ h.bx (fun x => x), k.at_ h.a (fun x => x), k.at_ h.b (fun x => x), h.lt⟩
theorem QuW.setA {w0 w : World} {v : Int} {A : Option Addr} {n c B : Nat} {f f' f2 : Nat → Int} (h : QuW w0 w v A n c B f f') (g : Nat) (hg : g < 7) (x : Int) (hx : f2 g = x) (hf : ∀ j, j ≠ g → f2 j = f j) : QuW w0 (w.setCell ⟨B, g, none⟩ (.int .i64 x)) v A n c B f2 f' :=
  ⟨h.fr.setCell (p := ⟨B, g, none⟩) (fun k => absurd k (by have := h.lt; simp only; omega)) _, (Below.heap_setCell _ _ _ _ (by have := h.lt; simp only; omega)).trans h.bx, by rw [heap_set h.a, arrI_set f f2 g hg x hx hf], (Below.heap_setCell _ _ _ _ (by simp)).trans h.b, h.lt⟩
theorem QuW.setB {w0 w : World} {v : Int} {A : Option Addr} {n c B : Nat} {f f' f2 : Nat → Int} (h : QuW w0 w v A n c B f f') (g : Nat) (hg : g < 7) (x : Int) (hx : f2 g = x) (hf : ∀ j, j ≠ g → f2 j = f' j) : QuW w0 (w.setCell ⟨B + 1, g, none⟩ (.int .i64 x)) v A n c B f f2 :=
  ⟨h.fr.setCell (p := ⟨B + 1, g, none⟩) (fun k => absurd k (by have := h.lt; simp only; omega)) _, (Below.heap_setCell _ _ _ _ (by have := h.lt; simp only; omega)).trans h.bx, (Below.heap_setCell _ _ _ _ (by simp)).trans h.a, by rw [heap_set h.b, arrI_set f' f2 g hg x hx hf], h.lt⟩

theorem qu_start {w w1 : World} {v : Int} {A : Option Addr} {n c : Nat} {ids : List Int} {ms : List Mem} (f : Fr NoB (w.alloc (.cells #[.int .i64 v, .slice A n c] 25)) w1) (hb : w1.heap[w.heap.size]? = some (.cells #[.int .i64 v, .slice A n c] 25 (0, 0))) :
    QuW w ((w1.alloc (.cells #[.int .i64 0, .int .i64 0, .int .i64 0, .int .i64 0, .int .i64 0, .int .i64 0, .int .i64 0] 80)).alloc (.cells #[.int .i64 0, .int .i64 0, .int .i64 0, .int .i64 0, .int .i64 0, .int .i64 0, .int .i64 0] 80)) v A n c w1.heap.size (allG (ms.take 0)) (someG ids (ms.take 0)) where
  fr := ((((Fr.refl NoB w).alloc _).then f).alloc _).alloc _
  bx := (((Fr.refl NoB w1).alloc _).alloc _).at_ hb (fun x => x)
  a := (Below.heap_alloc _ _ _ (by simp)).trans (heap_alloc_new w1 _)
  b := by
    have h := heap_alloc_new (w1.alloc (.cells #[.int .i64 0, .int .i64 0, .int .i64 0, .int .i64 0, .int .i64 0, .int .i64 0, .int .i64 0] 80)) (.cells #[.int .i64 0, .int .i64 0, .int .i64 0, .int .i64 0, .int .i64 0, .int .i64 0, .int .i64 0] 80)
    rwa [show (w1.alloc (.cells #[.int .i64 0, .int .i64 0, .int .i64 0, .int .i64 0, .int .i64 0, .int .i64 0, .int .i64 0] 80)).heap.size = w1.heap.size + 1 from by simp] at h
  lt := Lib.lt_of_heap hb

set_option maxRecDepth 8000 in
set_option maxHeartbeats 6400000 in
theorem quorum_calls (v : Int) (A : Option Addr) (ms : List Mem) (c lo hi : Nat) (D : Option Addr) (ids : List Int) (d lo' hi' : Nat) (w : World) (h : RdM w lo hi A ms) (hh : hi ≤ w.heap.size) (hl : ms.length ≤ 140737488355328) (h' : RdI w lo' hi' D ids) (hh' : hi' ≤ w.heap.size) (hl' : ids.length ≤ 140737488355328) :
    Calls Tryd.prog 26 #[.agg #[.int .i64 v, .slice A ms.length c], .slice D ids.length d] w fun e w' => e = .returned (.bool (quo v ms ids)) ∧ Fr NoB w w' := by
  have HCK := Lib.hid (fun W (f : Fr NoB w W) => check_calls v A ms c lo hi W (h.fr f hh (fun _ _ _ x => x)) (Nat.le_trans hh f.size) hl)
  by_cases hc0 : chk v ms = 0
  · have hlen : ms.length ≤ 7 := by
      by_cases h7 : 7 < ms.length
      · rw [chk_long h7] at hc0; omega
      · omega
    have hgood := chk_good hc0
    rw [hc0] at HCK
    have hres : quo v ms ids = quoL ms ids := by unfold quo; rw [hc0]; rfl
    rw [hres]
    have HM := Lib.hid h
    have HI := Lib.hid (fun W (x : Int) (f : Fr NoB w W) => contains_calls D ids d lo' hi' x W (h'.fr f hh' (fun _ _ _ x => x)) hl')
    clear h h' hres hc0
    go_enter Tryd.func26, Tryd.ntmps26
    go_wp2_with (go_at_call 13; refine (HCK.out _ ((Fr.refl NoB w).alloc _)).mono ?_; rintro e w1 ⟨rfl, f1⟩; have F1 := Lib.hid f1; have hbx := heap_alloc_new w (.cells #[.int .i64 v, .slice A ms.length c] 25); have HBX := Lib.hid (f1.at_ hbx (fun x => x)); have hb1 : ∀ o o2, ((w1.alloc o).alloc o2).cell? ⟨w.heap.size, 1, none⟩ = some (.slice A ms.length c) := fun o o2 => Lib.cell_of_heap ((((Fr.refl NoB w1).alloc o).alloc o2).at_ HBX.out (fun x => x)) 1; clear f1 hbx)
    go_loopw [18] (fun i wr => ∃ k : Nat, k ≤ ms.length ∧ i = .int .i64 (k : Int) ∧ QuW w wr v A ms.length c w1.heap.size (allG (ms.take k)) (someG ids (ms.take k))) (fun i _ => ms.length - (intOf i).toNat)
    case atStart =>
      refine ⟨0, Nat.zero_le _, rfl, ?_⟩
      exact qu_start F1.out HBX.out
    case round =>
      obtain ⟨k, hk, rfl, hq⟩ := hrel
      have QW := Lib.hid hq
      clear hq hb1
      by_cases hlt : k < ms.length
      · obtain ⟨b, o, rfl, hb1, hb2, hcs⟩ := HM.out (by omega)
        obtain ⟨d0, d1, d2, d3⟩ := hcs k ms[k] (List.getElem?_eq_getElem hlt)
        have hgm := hgood ms[k] (List.getElem_mem hlt)
        have hts := take_snoc (List.getElem?_eq_getElem hlt)
        have hbd := fun p => wSum_bound (ms := ms.take k) (fun x hx => hgood x (List.mem_of_mem_take hx)) p
        have hbn := fun p => wSum_nonneg (ms := ms.take k) (fun x hx => hgood x (List.mem_of_mem_take hx)) p
        clear hcs
        generalize ms[k] = m at d0 d1 d2 d3 hgm hts
        obtain ⟨m0, m1, m2, m3⟩ := m
        unfold GoodM at hgm
        simp only at d0 d1 d2 d3 hgm
        have e0 := (QW.out.fr.cell (p := ⟨b, o + k * 4, none⟩) (by simp only; omega) (fun x => x)).trans d0
        have e1 := (QW.out.fr.cell (p := ⟨b, o + k * 4 + 1, none⟩) (by simp only; omega) (fun x => x)).trans d1
        have e2 := (QW.out.fr.cell (p := ⟨b, o + k * 4 + 2, none⟩) (by simp only; omega) (fun x => x)).trans d2
        have e3 := (QW.out.fr.cell (p := ⟨b, o + k * 4 + 3, none⟩) (by simp only; omega) (fun x => x)).trans d3
        obtain ⟨g, rfl⟩ : ∃ g : Nat, m3 = (g : Int) := ⟨m3.toNat, by omega⟩
        have hg7 : g < 7 := by omega
        have hgi : (g : Int) < 7 := by omega
        have QA := Lib.hid (QW.out.keep ((Fr.refl NoB wr).alloc (.cells #[.int .i64 m0, .int .u8 m1, .int .i64 m2, .int .i64 (g : Int)] 30)))
        have ha := (cells_of QA.out.a g).1
        have hfa := (cells_of QA.out.a g).2
        rw [arrI_get _ g hg7] at ha
        have hwa : IntKind.i64.wrap (allG (ms.take k) g + m2) = allG (ms.take k) g + m2 := by
          have h1 := hbd (fun m => m.2.2.2 == (g : Int))
          have h2 := hbn (fun m => m.2.2.2 == (g : Int))
          have e : allG (ms.take k) g = wSum (fun m => m.2.2.2 == (g : Int)) (ms.take k) := rfl
          rw [List.length_take] at h1
          rw [IntKind.wrap_i64, e]; omega
        have hi2 : (k : Int) < (ms.length : Int) := by omega
        have HGM := Lib.hid hgm
        have HTS := Lib.hid hts
        have HBD := Lib.hid hbd
        have HBN := Lib.hid hbn
        clear d0 d1 d2 d3 hgm hts hbd hbn
        have hfresh := fun i v hv => bx_keep (w := wr) (cs := #[.int .i64 m0, .int .u8 m1, .int .i64 m2, .int .i64 (g : Int)]) (t := 30) (fr := (0, 0)) (Fr.refl NoB _) i v hv
        have n0 := hfresh 0 _ rfl
        have n2 := hfresh 2 _ rfl
        have n3 := hfresh 3 _ rfl
        clear hfresh
        go_wp2_with (fail)
        generalize wr.alloc (.cells #[.int .i64 m0, .int .u8 m1, .int .i64 m2, .int .i64 (g : Int)] 30) = W0 at QA ha hfa n0 n2 n3 ⊢
        have QA := Lib.hid (QA.out.keep ((Fr.refl NoB W0).drew))
        have ha : W0.drew.cell? ⟨w1.heap.size, g, none⟩ = some (.int .i64 (allG (ms.take k) g)) := ha
        have hfa : W0.drew.frozen? ⟨w1.heap.size, g, none⟩ = false := hfa
        have n0 : W0.drew.cell? ⟨wr.heap.size, 0, none⟩ = some (.int .i64 m0) := n0
        have n2 : W0.drew.cell? ⟨wr.heap.size, 2, none⟩ = some (.int .i64 m2) := n2
        have n3 : W0.drew.cell? ⟨wr.heap.size, 3, none⟩ = some (.int .i64 (g : Int)) := n3
        go_still_tail 8, (by kernel_rfl)
        change wpList _ _ _ _ _ W0.drew
        generalize W0.drew = W at QA ha hfa n0 n2 n3 ⊢
        have hBlt := Lib.lt_of_heap QW.out.b
        have hBle := QW.out.lt
        have m0' := set_far (B := w1.heap.size) (g := g) (u := .int .i64 (allG (ms.take k) g + m2)) n0 (by omega)
        have m2' := set_far (B := w1.heap.size) (g := g) (u := .int .i64 (allG (ms.take k) g + m2)) n2 (by omega)
        have m3' := set_far (B := w1.heap.size) (g := g) (u := .int .i64 (allG (ms.take k) g + m2)) n3 (by omega)
        go_wp2_with (fail)
        have QB := Lib.hid ((QA.out.setA (f2 := allG (ms.take (k + 1))) g hg7 (allG (ms.take k) g + m2) (by rw [HTS.out, allG_snoc, if_pos rfl]) (fun j hj => by rw [HTS.out, allG_snoc, if_neg (fun x => hj x.symm)]; omega)))
        generalize W.setCell ⟨w1.heap.size, g, none⟩ (.int .i64 (allG (ms.take k) g + m2)) = W2 at m0' m2' m3' QB ⊢
        have HIX := Lib.hid (HI.out W2 m0 QB.out.fr)
        have HBB := Lib.hid hBlt
        clear n0 n2 n3 ha hfa hwa QA hBlt hBle
        cases hct : ids.contains m0
        · rw [hct] at HIX
          have hsame : someG ids (ms.take (k + 1)) = someG ids (ms.take k) := by
            funext j
            rw [HTS.out, someG_snoc, if_neg (by rw [hct]; simp)]
            omega
          have HSM := Lib.hid hsame
          clear hsame hct
          refine HIX.out.mono ?_
          rintro e w3 ⟨rfl, n3, rfl⟩
          go_wp2
          go_roundw
          case rel => exact ⟨k + 1, by omega, by go_num, by rw [HSM.out]; exact QB.out.keep ((Fr.refl NoB W2).drewN n3)⟩
          case measure => simp [intOf]; omega
        · rw [hct] at HIX
          have HCT := Lib.hid hct
          clear hct
          refine HIX.out.mono ?_
          rintro e w3 ⟨rfl, n3, rfl⟩
          go_wp2_with (fail)
          have QC := Lib.hid (QB.out.keep ((Fr.refl NoB W2).drewN n3))
          have p2 : (W2.drewN n3).cell? ⟨wr.heap.size, 2, none⟩ = some (.int .i64 m2) := m2'
          have p3 : (W2.drewN n3).cell? ⟨wr.heap.size, 3, none⟩ = some (.int .i64 (g : Int)) := m3'
          have ha := (cells_of QC.out.b g).1
          have hfa := (cells_of QC.out.b g).2
          rw [arrI_get _ g hg7] at ha
          have hws : IntKind.i64.wrap (someG ids (ms.take k) g + m2) = someG ids (ms.take k) g + m2 := by
            have h1 := HBD.out (fun m => m.2.2.2 == (g : Int) && ids.contains m.1)
            have h2 := HBN.out (fun m => m.2.2.2 == (g : Int) && ids.contains m.1)
            have e : someG ids (ms.take k) g = wSum (fun m => m.2.2.2 == (g : Int) && ids.contains m.1) (ms.take k) := rfl
            have h3 := HGM.out
            rw [List.length_take] at h1
            rw [IntKind.wrap_i64, e]; omega
          generalize W2.drewN n3 = W3 at p2 p3 ha hfa QC ⊢
          have QC := Lib.hid (QC.out.keep ((Fr.refl NoB W3).drew))
          have ha : W3.drew.cell? ⟨w1.heap.size + 1, g, none⟩ = some (.int .i64 (someG ids (ms.take k) g)) := ha
          have hfa : W3.drew.frozen? ⟨w1.heap.size + 1, g, none⟩ = false := hfa
          have p2 : W3.drew.cell? ⟨wr.heap.size, 2, none⟩ = some (.int .i64 m2) := p2
          have p3 : W3.drew.cell? ⟨wr.heap.size, 3, none⟩ = some (.int .i64 (g : Int)) := p3
          clear m0' m2' m3' QB
          go_still_tail 8, (by kernel_rfl)
          change wpList _ _ _ _ _ W3.drew
          generalize W3.drew = W4 at QC ha hfa p2 p3 ⊢
          have QD := Lib.hid ((QC.out.setB (f2 := someG ids (ms.take (k + 1))) g hg7 (someG ids (ms.take k) g + m2) (by rw [HTS.out, someG_snoc, if_pos ⟨rfl, HCT.out⟩]) (fun j hj => by rw [HTS.out, someG_snoc, if_neg (fun x => hj x.1.symm)]; omega)))
          go_wp2
          go_roundw
          case rel => exact ⟨k + 1, by omega, by go_num, QD.out⟩
          case measure => simp [intOf]; omega
      · obtain rfl : k = ms.length := by omega
        have hq := QW.out
        rw [List.take_length] at hq
        have QE := Lib.hid hq
        have hbd := fun p => wSum_bound hgood p
        have hbn := fun p => wSum_nonneg hgood p
        have HBD := Lib.hid hbd
        have HBN := Lib.hid hbn
        clear hq QW hbd hbn hgood hlt hk
        go_wp2
        go_loopw [9, 10, 43] (fun a b i wx => ∃ k : Nat, k ≤ 7 ∧ i = .int .i64 (k : Int) ∧ a = .int .i64 (cnt (fullG ms) k) ∧ b = .int .i64 (cnt (wins ids ms) k) ∧ QuW w wx v A ms.length c w1.heap.size (allG ms) (someG ids ms)) (fun _ _ i _ => 7 - (intOf i).toNat)
        case atStart => exact ⟨0, by omega, rfl, rfl, rfl, QE.out⟩
        case round =>
          obtain ⟨k, hk, rfl, rfl, rfl, hq⟩ := hrel
          have QF := Lib.hid hq
          have c1 := cnt_bound (fullG ms) k
          have c2 := cnt_bound (wins ids ms) k
          clear hq
          by_cases hlt : k < 7
          · have ha := (cells_of QF.out.a k).1
            have hb := (cells_of QF.out.b k).1
            rw [arrI_get _ k hlt] at ha hb
            have g1 := HBD.out (fun m => m.2.2.2 == (k : Int) && ids.contains m.1)
            have g2 := HBN.out (fun m => m.2.2.2 == (k : Int) && ids.contains m.1)
            have ed : wSum (fun m => m.2.2.2 == (k : Int) && ids.contains m.1) ms = someG ids ms k := rfl
            rw [ed] at g1 g2
            have hfd : fullG ms k = decide (0 < allG ms k) := rfl
            have hwd : wins ids ms k = decide (allG ms k < 2 * someG ids ms k) := rfl
            have hcf : cnt (fullG ms) (k + 1) = cnt (fullG ms) k + (if fullG ms k = true then 1 else 0) := rfl
            have hcw : cnt (wins ids ms) (k + 1) = cnt (wins ids ms) k + (if wins ids ms k = true then 1 else 0) := rfl
            rw [hfd] at hcf
            rw [hwd] at hcw
            simp only [decide_eq_true_eq] at hcf hcw
            clear ed hfd hwd
            generalize allG ms k = x at ha hcf hcw
            generalize someG ids ms k = y at hb hcw g1 g2
            have hw2 : IntKind.i64.wrap (2 * y) = 2 * y := by rw [IntKind.wrap_i64]; omega
            have hki : (k : Int) < 7 := by omega
            have hk7 : (k : Int) ≤ 7 := by omega
            clear g1 g2
            by_cases hx : 0 < x
            · by_cases hy : x < 2 * y
              · have HCF := Lib.hid hcf
                have HCW := Lib.hid hcw
                have HX := Lib.hid hx
                have HY := Lib.hid hy
                clear hcf hcw
                go_wp2
                go_quiet (fail)
                go_wp2
                go_roundw
                case rel => exact ⟨k + 1, by omega, by go_num, congrArg (Value.int .i64) (by have h1 := HCF.out; have h2 := HX.out; rw [h1]; split <;> omega), congrArg (Value.int .i64) (by have h1 := HCW.out; have h2 := HY.out; rw [h1]; split <;> omega), QF.out.keep ((Fr.refl NoB _).drewN _)⟩
                case measure => simp [intOf]; omega
              · have HCF := Lib.hid hcf
                have HCW := Lib.hid hcw
                have HX := Lib.hid hx
                have HY := Lib.hid hy
                clear hcf hcw
                go_wp2
                go_quiet (fail)
                go_wp2
                go_roundw
                case rel => exact ⟨k + 1, by omega, by go_num, congrArg (Value.int .i64) (by have h1 := HCF.out; have h2 := HX.out; rw [h1]; split <;> omega), congrArg (Value.int .i64) (by have h1 := HCW.out; have h2 := HY.out; rw [h1]; split <;> omega), QF.out.keep ((Fr.refl NoB _).drewN _)⟩
                case measure => simp [intOf]; omega
            · by_cases hy : x < 2 * y
              · have HCF := Lib.hid hcf
                have HCW := Lib.hid hcw
                have HX := Lib.hid hx
                have HY := Lib.hid hy
                clear hcf hcw
                go_wp2
                go_quiet (fail)
                go_wp2
                go_roundw
                case rel => exact ⟨k + 1, by omega, by go_num, congrArg (Value.int .i64) (by have h1 := HCF.out; have h2 := HX.out; rw [h1]; split <;> omega), congrArg (Value.int .i64) (by have h1 := HCW.out; have h2 := HY.out; rw [h1]; split <;> omega), QF.out.keep ((Fr.refl NoB _).drewN _)⟩
                case measure => simp [intOf]; omega
              · have HCF := Lib.hid hcf
                have HCW := Lib.hid hcw
                have HX := Lib.hid hx
                have HY := Lib.hid hy
                clear hcf hcw
                go_wp2
                go_quiet (fail)
                go_wp2
                go_roundw
                case rel => exact ⟨k + 1, by omega, by go_num, congrArg (Value.int .i64) (by have h1 := HCF.out; have h2 := HX.out; rw [h1]; split <;> omega), congrArg (Value.int .i64) (by have h1 := HCW.out; have h2 := HY.out; rw [h1]; split <;> omega), QF.out.keep ((Fr.refl NoB _).drewN _)⟩
                case measure => simp [intOf]; omega
          · obtain rfl : k = 7 := by omega
            have e : quoL ms ids = decide (cnt (fullG ms) 7 < 2 * cnt (wins ids ms) 7) := rfl
            have HE := Lib.hid e
            have c3 : cnt (wins ids ms) 7 ≤ 7 := c2.2
            have c4 := c2.1
            clear e c1 c2
            go_wp2
            all_goals go_ret
            all_goals (rw [HE.out]; exact ⟨rfl, QF.out.fr⟩)
  · have hres : quo v ms ids = false := by unfold quo; rw [beq_eq_false_iff_ne.2 hc0]; rfl
    have hb : (chk v ms != 0) = true := by rw [bne_iff_ne]; exact hc0
    rw [hres]
    generalize chk v ms = z at HCK hb
    clear h h' hc0 hres
    go_enter Tryd.func26, Tryd.ntmps26
    go_wp2_with (go_at_call 13; refine (HCK.out _ ((Fr.refl NoB w).alloc _)).mono ?_; rintro e w1 ⟨rfl, f1⟩)
    go_ret
    exact ⟨rfl, ((Fr.refl NoB w).alloc _).then f1⟩

end Go.Proofs.YtbgpgaekckfjlaaDoor
