/-
  Sge: Scan.
-/
import Derived.Test.YtmlmbahimklfiaaGreatDoorSgm
namespace Go.Proofs.YtmlmbahimklfiaaGreatDoor
open Go.RowKit Go.Shelf
attribute [local go_sem] Oper.semAt_some

set_option maxHeartbeats 1000000 in
theorem frames_calls (A : Option Addr) (k c : Nat) (w : World) :
    Calls Tryz.prog 29 #[.slice A k c] w fun e w' => e = .returned (.func (.func 62) #[] #[.pointer (some ⟨w.heap.size, 0, none⟩)]) ∧ w' = w.alloc (.cells #[.slice A k c] 24) := by
  go_enter Tryz.func29, Tryz.ntmps29
  go_wp2
  go_ret
  exact ⟨rfl, rfl⟩
theorem five_allocs (w : World) (o0 o1 o2 o3 o4 : Obj) : ((((((w.alloc o0).alloc o1).alloc o2).alloc o3).alloc o4).heap.size = w.heap.size + 5) ∧ (((((w.alloc o0).alloc o1).alloc o2).alloc o3).alloc o4).heap[w.heap.size]? = some o0 ∧ (((((w.alloc o0).alloc o1).alloc o2).alloc o3).alloc o4).heap[w.heap.size + 1]? = some o1 ∧ (((((w.alloc o0).alloc o1).alloc o2).alloc o3).alloc o4).heap[w.heap.size + 2]? = some o2 ∧ (((((w.alloc o0).alloc o1).alloc o2).alloc o3).alloc o4).heap[w.heap.size + 3]? = some o3 ∧ (((((w.alloc o0).alloc o1).alloc o2).alloc o3).alloc o4).heap[w.heap.size + 4]? = some o4 := by
  have s1 : (w.alloc o0).heap.size = w.heap.size + 1 := World.size_alloc w o0
  have h0 := heap_alloc_new w o0
  generalize w.alloc o0 = a at *
  have s2 : (a.alloc o1).heap.size = w.heap.size + 2 := by rw [World.size_alloc, s1]
  have h1 := heap_alloc_new a o1
  rw [s1] at h1
  have k0 := ((Fr.refl NoB a).alloc o1).at_ h0 (fun x => x)
  generalize a.alloc o1 = b at *
  have s3 : (b.alloc o2).heap.size = w.heap.size + 3 := by rw [World.size_alloc, s2]
  have h2 := heap_alloc_new b o2
  rw [s2] at h2
  have l0 := ((Fr.refl NoB b).alloc o2).at_ k0 (fun x => x)
  have l1 := ((Fr.refl NoB b).alloc o2).at_ h1 (fun x => x)
  generalize b.alloc o2 = c at *
  have s4 : (c.alloc o3).heap.size = w.heap.size + 4 := by rw [World.size_alloc, s3]
  have h3 := heap_alloc_new c o3
  rw [s3] at h3
  have m0 := ((Fr.refl NoB c).alloc o3).at_ l0 (fun x => x)
  have m1 := ((Fr.refl NoB c).alloc o3).at_ l1 (fun x => x)
  have m2 := ((Fr.refl NoB c).alloc o3).at_ h2 (fun x => x)
  generalize c.alloc o3 = d at *
  have h4 := heap_alloc_new d o4
  rw [s4] at h4
  have f := (Fr.refl NoB d).alloc o4
  exact ⟨by rw [World.size_alloc, s4], f.at_ m0 (fun x => x), f.at_ m1 (fun x => x), f.at_ m2 (fun x => x), f.at_ h3 (fun x => x), h4⟩
/-- What Scan answers. -/
def Scanned (b : List UInt8) (w : World) (e : Ending) (w' : World) : Prop :=
  ∃ A c A2 c2 LL, e = .returned (.tuple #[.slice A LL.length c, .slice A2 (scan b).length c2, .int .i64 ((segB (scan b)).length : Int)]) ∧ LL.map (·.1) = scan b ∧ DE w.heap.size w' (.slice A LL.length c) (.slice A2 (scan b).length c2) LL (endZ (scan b)) ∧ Fr NoB w w'

set_option maxRecDepth 100000 in
set_option maxHeartbeats 4000000 in
theorem scan_calls (A : Option Addr) (b : List UInt8) (c lo hi : Nat) (w : World) (h : Rd w lo hi A b) (hh : hi ≤ w.heap.size) (hlc : b.length ≤ c) (hcm : c ≤ maxLen) (hb : b.length ≤ 1000000000) (hH : Has w) :
    Calls Tryz.prog 10 #[.slice A b.length c] w (Scanned b w) := by
  obtain ⟨i0, hi0, hz0, hz1, hz2⟩ := info_parts info_deed
  obtain ⟨j0, hj0, hy0, hy1, hy2⟩ := info_parts info_int
  refine (callsIn_wide (n := 3)).1 ?_
  refine callsIn_of_wp_marks Tryz.func10 rfl trivial ?_ rfl
  simp only [Tryz.ntmps10, List.size_toArray, List.length_cons, List.length_nil, Nat.reduceAdd, Nat.reduceSub, Array.replicate_succ, Array.replicate_zero, List.push_toArray, List.append_toArray, List.nil_append, List.cons_append]
  gi_wp2_with (refine ⟨trivial, ?_⟩; gi_at_call 29; refine (callsIn_wide.2 (frames_calls _ _ _ _)).mono ?_; rintro e w' ⟨rfl, rfl⟩)
  simp only [Nat.add_assoc, Nat.reduceAdd]
  obtain ⟨w2, hw2⟩ : ∃ w2, ((((w.alloc (.cells #[.slice none 0 0] 29)).alloc (.cells #[.slice none 0 0] 37)).alloc (.cells #[.int .i64 0] 3)).alloc (.cells #[.int .i64 0] 22)).alloc (.cells #[.slice A b.length c] 24) = w2 := ⟨_, rfl⟩
  rw [hw2]
  have f2 : Fr NoB w w2 := by rw [← hw2]; exact (((((Fr.refl NoB w).alloc _).alloc _).alloc _).alloc _).alloc _
  have h5 := five_allocs w (.cells #[.slice none 0 0] 29) (.cells #[.slice none 0 0] 37) (.cells #[.int .i64 0] 3) (.cells #[.int .i64 0] 22) (.cells #[.slice A b.length c] 24)
  rw [hw2] at h5
  obtain ⟨hsz, g0, g1, g2, g3, g4⟩ := h5
  clear hw2
  have hx0 : ∀ L, XS w [] ((w2.alloc (.deferred (some []))).alloc (.loop L)) := fun L => by
    have f := ((Fr.refl NoB w2).alloc (.deferred (some []))).alloc (.loop L)
    refine ⟨f2.then f, ⟨_, _, [], f.at_ g0 (fun x => x), f.at_ g1 (fun x => x), rfl, DE.nil _ _⟩, f.at_ g2 (fun x => x), f.at_ g3 (fun x => x), ?_⟩
    have := heap_alloc_new w2 (.deferred (some []))
    rw [hsz] at this
    exact (Below.heap_alloc _ _ _ (by simp [hsz])).trans this
  have hend : ∀ q L W, FB (XS w) (w.heap.size + 4) (w.heap.size + 6) lo hi q (scan b) L W → ∃ A' c' A2 c2 LL, LL.map (·.1) = scan b ∧ DE w.heap.size (W.drew.putObj (w.heap.size + 5) (.deferred none)) (.slice A' LL.length c') (.slice A2 (scan b).length c2) LL (endZ (scan b)) ∧ Fr NoB w (W.drew.putObj (w.heap.size + 5) (.deferred none)) ∧ W.cell? ⟨w.heap.size, 0, none⟩ = some (.slice A' LL.length c') ∧ W.cell? ⟨w.heap.size + 1, 0, none⟩ = some (.slice A2 (scan b).length c2) ∧ W.cell? ⟨w.heap.size + 2, 0, none⟩ = some (.int .i64 ((segB (scan b)).length : Int)) ∧ W.heap[w.heap.size + 5]? = some (.deferred (some [])) := fun q L W hp => by
    obtain ⟨V, U, LL, e0, e1, hL, hD⟩ := hp.x.e
    obtain ⟨A', c', rfl, -, -⟩ := own_form4 hD.own
    obtain ⟨A2, c2, rfl, -, -⟩ := own_form4 hD.ends
    have hlen : (endZ (scan b)).length = (scan b).length := by simp [endZ, endsOf_len]
    rw [hlen] at hD e1
    have f := fr_putObj W.drew (w.heap.size + 5) (.deferred none)
    have hD2 := (hD.then ((Fr.refl NoB W).drew)).keep f (fun k hk => .inl (by simp only [OneB] at hk; omega))
    exact ⟨A', c', A2, c2, LL, hL, hD2.low (by omega), (hp.x.fr.drew).upE f (fun k hk => by simp only [OneB] at hk; omega), (cells_of e0 0).1, (cells_of e1 0).1, (cells_of hp.x.at_ 0).1, hp.x.dfr⟩
  refine range_scan (n := w.heap.size) (lo := lo) (hi := hi) (by omega) (XS w) (XS.bears w) (by omega) (fun u v => { tmps := #[.slice A b.length c, undef, .slice none 0 0, .slice none 0 0, .int .i64 0, .pointer (some ⟨w.heap.size, 0, none⟩), .pointer (some ⟨w.heap.size + 1, 0, none⟩), .pointer (some ⟨w.heap.size + 2, 0, none⟩), .pointer (some ⟨w.heap.size + 3, 0, none⟩), u, v, undef, undef, .slice A b.length c, .func (.func 62) #[] #[.pointer (some ⟨w.heap.size + 4, 0, none⟩)], u, v, undef, undef, undef, undef, undef, undef, undef, undef, undef, undef, undef, undef, undef, undef, undef, undef, undef, undef, undef, undef, undef, undef, undef, undef, undef, undef, undef, undef, undef], defers := [] }) rfl hsz hx0 ⟨A, c, g4, hlc, hcm, h.fr f2 hh (fun _ _ _ x => x)⟩ ?assign ?body ?done ?stop
  case assign =>
    intro l u v W K hK
    gi_wp2
    exact hK
  case body =>
    intro l q ds x A c lo2 hi2 L W hp hsc hu hxl hr hh2
    have hget := dget_calls A x c lo2 hi2 W hr hh2 hxl (hH.fr hp.x.fr)
    simp only [dval, dcells] at hget
    gi_wp2_with (refine ⟨trivial, ?_⟩; gi_at_call 30; refine (CallsIn.inRound l (callsIn_wide.2 hget)).mono ?_; rintro e w' ⟨f, pl, d, zz, rfl, hg, hd, f1⟩; have hp1 := hp.fr (XS.bears w).toBears f1; have hp2 := hp1.fr (XS.bears w).toBears ((Fr.refl NoB w').alloc (.cells (dcells f pl d.length) 31)); simp only [dcells] at hp2; have k3 := (cells_of hp2.x.last 0).1; rcases hg with ⟨hg, rfl⟩ | ⟨hg, rfl, rfl, rfl, rfl⟩; by_cases hz : f.z ≤ lastZ 0 ds)
    · exact ⟨rfl, .inr ⟨(f, d), hg, hz⟩, hp2⟩
    · obtain ⟨V, U, LL, hLL, hM⟩ := MM.of hh hp
      have hR7 := Lib.lt_of_heap hM.lp
      have hdr := hd.rd
      have hxp : PartE (w.heap.size + 7) w' V U ((f, d), pl) := ⟨⟨W.heap.size, w'.heap.size, by omega, Nat.le_refl _, fun g hg hx => by (rcases hg with hg | hg); (· have := hM.de.own.lt g hg; omega); (· have := hM.de.ends.lt g hg; omega), hdr⟩⟩
      obtain ⟨hb1, hb2, hb3⟩ := hsc.bound hu hg (Int.not_le.2 hz)
      obtain ⟨D, hDe⟩ : ∃ D, w'.heap.size = D := ⟨_, rfl⟩
      have hDn : w.heap.size + 7 ≤ D := by have := f1.size; omega
      have hVD : ¬ V.ownBlock = some D := fun hx => by have := hM.de.own.lt D hx; have := f1.size; omega
      have hUD : ¬ U.ownBlock = some D := fun hx => by have := hM.de.ends.lt D hx; have := f1.size; omega
      obtain ⟨W1, hW1⟩ : ∃ W1, w'.alloc (.cells (dcells f pl d.length) 31) = W1 := ⟨_, rfl⟩
      have fA : Fr NoB w' W1 := by rw [← hW1]; exact (Fr.refl NoB _).alloc _
      have m1 := ((hM.no f1).no fA).no (W' := W1.drew) (Fr.refl NoB _).drew
      have x1 := (hxp.keep fA (fun _ x => x.elim) (fun _ hg => .inl hg)).keep (w1 := W1.drew) (Fr.refl NoB _).drew (fun _ x => x.elim) (fun _ hg => .inl hg)
      have d1 : W1.drew.heap[D]? = some (.cells (dcells f pl d.length) 31 (0, 0)) := by rw [← hDe, ← hW1]; exact heap_alloc_new w' _
      simp only [dcells] at hW1 d1
      rw [hW1, hDe]
      have hLn : LL.length = ds.length := by rw [← hLL, List.length_map]
      have hEn : (endZ ds).length = ds.length := by simp [endZ, endsOf_len]
      obtain ⟨a', ha'⟩ : ∃ a' : Int, a' = ((segB (ds ++ [(f, d)])).length : Int) := ⟨_, rfl⟩
      have hsum : IntKind.i64.wrap (((segB ds).length : Int) + (8 + (x.length : Int))) = a' := by rw [IntKind.wrap_i64]; omega
      have fin : ∀ V' U' W9, MM w W9 lo hi q L V' U' a' f.z V' U' (LL ++ [((f, d), pl)]) (endZ ds ++ [a']) → ∃ e, getD x = some e ∧ ¬ e.1.z ≤ lastZ 0 ds ∧ FB (XS w) (w.heap.size + 4) (w.heap.size + 6) lo hi q (ds ++ [e]) L W9 := fun V' U' W9 h => ⟨(f, d), hg, Int.not_le.2 hz, by
        have e1 : f.z = lastZ 0 (ds ++ [(f, d)]) := (lastZ_snoc ds (f, d) 0).symm
        have e2 : endZ ds ++ [a'] = endZ (ds ++ [(f, d)]) := by rw [ha']; simp [endZ, endsOf_snoc]
        rw [e1, e2, ha'] at h
        exact h.fb (by rw [List.map_append, hLL]; rfl)⟩
      have c2 := (cells_of m1.at_ 0).1
      have z2 := (cells_of m1.at_ 0).2
      clear ha' hW1 fA hxp hdr hd hp2 hp1 k3 hget hp f1 hM hr hh2 hu hsc hb3
      refine wpIn_region_J (fun j X => X.heap[D]? = some (.cells #[.int .i64 f.z, .int .u8 f.k, .int .i64 f.s, .int .i64 f.t, .int .i64 f.x, .int .i64 f.m, .string ⟨f.path.toArray⟩, .slice pl.A f.data.length pl.c, .int .i64 f.ow, .int .i64 f.ve, .int .i64 f.cv, .int .i64 f.ti, .int .i64 f.er, .int .i64 f.c.1, .slice pl.B f.c.2.length pl.d, .slice pl.P d.length pl.e] 31 (0, 0)) ∧ (j < 3 → X.cell? ⟨w.heap.size + 2, 0, none⟩ = some (.int .i64 ((segB ds).length : Int)))) (by kernel_rfl) (fun ⟨_, _, h⟩ => by exact h) (by kernel_rfl) ?_
      obtain ⟨W2, hW2⟩ : ∃ W2, W1.drew = W2 := ⟨_, rfl⟩
      rw [hW2] at m1 x1 d1 c2 z2 ⊢
      clear hW2
      simp only [List.size_toArray, List.length_cons, List.length_nil, Nat.reduceAdd]
      refine J_take (i := 3) (v := ?_) (fun X : World => X.heap[D]? = some (.cells #[.int .i64 f.z, .int .u8 f.k, .int .i64 f.s, .int .i64 f.t, .int .i64 f.x, .int .i64 f.m, .string ⟨f.path.toArray⟩, .slice pl.A f.data.length pl.c, .int .i64 f.ow, .int .i64 f.ve, .int .i64 f.cv, .int .i64 f.ti, .int .i64 f.er, .int .i64 f.c.1, .slice pl.B f.c.2.length pl.d, .slice pl.P d.length pl.e] 31 (0, 0))) (fun j => true) (by simp only [List.getElem?_toArray, List.getElem?_cons_succ, List.getElem?_cons_zero]; rfl) (by kernel_rfl) (by kernel_rfl) (by kernel_rfl) (by kernel_rfl) (by exact fun _ _ _ h => h) (fun j X _ h => h.1) (fun X h => ⟨h, fun h => absurd h (by omega)⟩) d1 (Or.inl ⟨by rfl, ?_⟩) ?_
      rotate_left
      · intro X hX; have hc := (cells_of hX 0).1; simp only [List.getElem?_toArray, List.getElem?_cons_zero] at hc; go_simp; (try with_reducible rfl)
      try simp only [Act.put, List.setIfInBounds_toArray, List.set_cons_zero, List.set_cons_succ]
      refine J_take (i := 4) (v := ?_) (fun X : World => X.heap[D]? = some (.cells #[.int .i64 f.z, .int .u8 f.k, .int .i64 f.s, .int .i64 f.t, .int .i64 f.x, .int .i64 f.m, .string ⟨f.path.toArray⟩, .slice pl.A f.data.length pl.c, .int .i64 f.ow, .int .i64 f.ve, .int .i64 f.cv, .int .i64 f.ti, .int .i64 f.er, .int .i64 f.c.1, .slice pl.B f.c.2.length pl.d, .slice pl.P d.length pl.e] 31 (0, 0))) (fun j => true) (by simp only [List.getElem?_toArray, List.getElem?_cons_succ, List.getElem?_cons_zero]; rfl) (by kernel_rfl) (by kernel_rfl) (by kernel_rfl) (by kernel_rfl) (by exact fun _ _ _ h => h) (fun j X _ h => h.1) (fun X h => ⟨h, fun h => absurd h (by omega)⟩) d1 (Or.inl ⟨by rfl, ?_⟩) ?_
      rotate_left
      · intro X hX; have hc := (cells_of hX 0).1; simp only [List.getElem?_toArray, List.getElem?_cons_zero] at hc; go_simp; (try with_reducible rfl)
      try simp only [Act.put, List.setIfInBounds_toArray, List.set_cons_zero, List.set_cons_succ]
      refine J_take (i := 0) (v := ?_) (fun X : World => X.heap[D]? = some (.cells #[.int .i64 f.z, .int .u8 f.k, .int .i64 f.s, .int .i64 f.t, .int .i64 f.x, .int .i64 f.m, .string ⟨f.path.toArray⟩, .slice pl.A f.data.length pl.c, .int .i64 f.ow, .int .i64 f.ve, .int .i64 f.cv, .int .i64 f.ti, .int .i64 f.er, .int .i64 f.c.1, .slice pl.B f.c.2.length pl.d, .slice pl.P d.length pl.e] 31 (0, 0)) ∧ X.cell? ⟨w.heap.size + 2, 0, none⟩ = some (.int .i64 ((segB ds).length : Int))) (fun j => decide (j < 3)) (by simp only [List.getElem?_toArray, List.getElem?_cons_zero]; rfl) (by kernel_rfl) (by kernel_rfl) (by kernel_rfl) (by kernel_rfl) (by exact fun _ _ _ h => h) (fun j X hm h => ⟨h.1, h.2 (of_decide_eq_true hm)⟩) (fun X h => ⟨h.1, fun _ => h.2⟩) ⟨d1, c2⟩ (Or.inl ⟨by rfl, ?_⟩) ?_
      rotate_left
      · intro X hX; obtain ⟨_, hX⟩ := hX; go_simp; (try with_reducible rfl)
      try simp only [Act.put, List.setIfInBounds_toArray, List.set_cons_zero, List.set_cons_succ]
      refine J_take (i := 1) (v := ?_) (fun X : World => X.heap[D]? = some (.cells #[.int .i64 f.z, .int .u8 f.k, .int .i64 f.s, .int .i64 f.t, .int .i64 f.x, .int .i64 f.m, .string ⟨f.path.toArray⟩, .slice pl.A f.data.length pl.c, .int .i64 f.ow, .int .i64 f.ve, .int .i64 f.cv, .int .i64 f.ti, .int .i64 f.er, .int .i64 f.c.1, .slice pl.B f.c.2.length pl.d, .slice pl.P d.length pl.e] 31 (0, 0)) ∧ X.cell? ⟨w.heap.size + 2, 0, none⟩ = some (.int .i64 ((segB ds).length : Int))) (fun j => decide (j < 3)) (by simp only [List.getElem?_toArray, List.getElem?_cons_succ, List.getElem?_cons_zero]; rfl) (by kernel_rfl) (by kernel_rfl) (by kernel_rfl) (by kernel_rfl) (by exact fun _ _ _ h => h) (fun j X hm h => ⟨h.1, h.2 (of_decide_eq_true hm)⟩) (fun X h => ⟨h.1, fun _ => h.2⟩) ⟨d1, c2⟩ (Or.inl ⟨by rfl, ?_⟩) ?_
      rotate_left
      · intro X hX; obtain ⟨_, hX⟩ := hX; go_simp; (try with_reducible rfl)
      try simp only [Act.put, List.setIfInBounds_toArray, List.set_cons_zero, List.set_cons_succ]
      refine J_take (i := 2) (v := ?_) (fun X : World => X.heap[D]? = some (.cells #[.int .i64 f.z, .int .u8 f.k, .int .i64 f.s, .int .i64 f.t, .int .i64 f.x, .int .i64 f.m, .string ⟨f.path.toArray⟩, .slice pl.A f.data.length pl.c, .int .i64 f.ow, .int .i64 f.ve, .int .i64 f.cv, .int .i64 f.ti, .int .i64 f.er, .int .i64 f.c.1, .slice pl.B f.c.2.length pl.d, .slice pl.P d.length pl.e] 31 (0, 0)) ∧ X.cell? ⟨w.heap.size + 2, 0, none⟩ = some (.int .i64 ((segB ds).length : Int))) (fun j => decide (j < 3)) (by simp only [List.getElem?_toArray, List.getElem?_cons_succ, List.getElem?_cons_zero]; rfl) (by kernel_rfl) (by kernel_rfl) (by kernel_rfl) (by kernel_rfl) (by exact fun _ _ _ h => h) (fun j X hm h => ⟨h.1, h.2 (of_decide_eq_true hm)⟩) (fun X h => ⟨h.1, fun _ => h.2⟩) ⟨d1, c2⟩ (Or.inl ⟨by rfl, ?_⟩) ?_
      rotate_left
      · intro X hX; obtain ⟨_, hX⟩ := hX; go_simp; (try with_reducible rfl)
      try simp only [Act.put, List.setIfInBounds_toArray, List.set_cons_zero, List.set_cons_succ]
      refine J_all (rs := [5]) (by kernel_rfl) (by simp) (fun i hi => ?_)
      simp only [List.mem_cons, List.not_mem_nil, or_false] at hi
      subst hi
      refine J_oneH (by simp only [List.getElem?_toArray, List.getElem?_cons_succ, List.getElem?_cons_zero]; rfl) rfl (fun K hK => ?_)
      have m2 := m1.setA a'
      have fS : Fr (OneB (w.heap.size + 2)) W2 (W2.setCell ⟨w.heap.size + 2, 0, none⟩ (.int .i64 a')) := (Fr.refl (OneB (w.heap.size + 2)) W2).setCell (p := ⟨w.heap.size + 2, 0, none⟩) (fun _ => rfl) _
      have x2 := x1.keep fS (fun k hk => .inl (by simp only [OneB] at hk; omega)) (fun _ hg => .inl hg)
      have d2 := fS.at_ d1 (fun hx => by simp only [OneB] at hx; omega)
      go_simp
      generalize World.setCell W2 _ _ = W3 at m2 x2 d2 ⊢
      clear m1 x1 d1 c2 z2 fS
      try simp only [Act.put, List.setIfInBounds_toArray, List.set_cons_zero, List.set_cons_succ]
      refine hK.out _ _ ⟨⟨d2, fun h => absurd h (by omega)⟩, ?_⟩
      refine J_all (rs := [6]) (by kernel_rfl) (by simp) (fun i hi => ?_)
      simp only [List.mem_cons, List.not_mem_nil, or_false] at hi
      subst hi
      refine J_oneH (by simp only [List.getElem?_toArray, List.getElem?_cons_succ, List.getElem?_cons_zero]; rfl) rfl (fun K hK => ?_)
      have c3 := (cells_of m2.last 0).1
      have z3 := (cells_of m2.last 0).2
      have m3 := m2.setZ f.z
      have fS : Fr (OneB (w.heap.size + 3)) W3 (W3.setCell ⟨w.heap.size + 3, 0, none⟩ (.int .i64 f.z)) := (Fr.refl (OneB (w.heap.size + 3)) W3).setCell (p := ⟨w.heap.size + 3, 0, none⟩) (fun _ => rfl) _
      have x3 := x2.keep fS (fun k hk => .inl (by simp only [OneB] at hk; omega)) (fun _ hg => .inl hg)
      have d3 := fS.at_ d2 (fun hx => by simp only [OneB] at hx; omega)
      go_simp
      generalize World.setCell W3 _ _ = W4 at m3 x3 d3 ⊢
      clear m2 x2 d2 c3 z3 fS
      try simp only [Act.put, List.setIfInBounds_toArray, List.set_cons_zero, List.set_cons_succ]
      refine hK.out _ _ ⟨⟨d3, fun h => absurd h (by omega)⟩, ?_⟩
      refine J_done (by kernel_rfl) ?_
      gi_wp2
      refine wpIn_region_J (fun j X => (j < 9 → X.cell? ⟨w.heap.size + 1, 0, none⟩ = some U ∧ X.cell? ⟨w.heap.size + 2, 0, none⟩ = some (.int .i64 a')) ∧ (j ≠ 4 → j ≠ 5 → j < 8 → X.cell? ⟨w.heap.size, 0, none⟩ = some V ∧ X.heap[D]? = some (.cells #[.int .i64 f.z, .int .u8 f.k, .int .i64 f.s, .int .i64 f.t, .int .i64 f.x, .int .i64 f.m, .string ⟨f.path.toArray⟩, .slice pl.A f.data.length pl.c, .int .i64 f.ow, .int .i64 f.ve, .int .i64 f.cv, .int .i64 f.ti, .int .i64 f.er, .int .i64 f.c.1, .slice pl.B f.c.2.length pl.d, .slice pl.P d.length pl.e] 31 (0, 0)))) (by kernel_rfl) (fun ⟨_, _, h⟩ => by exact h) (by kernel_rfl) ?_
      obtain ⟨X0, hX0⟩ : ∃ X0, W4.drew = X0 := ⟨_, rfl⟩
      have m0 := m3.no (W' := W4.drew) (Fr.refl NoB _).drew
      have x0 := x3.keep (w1 := W4.drew) (Fr.refl NoB _).drew (fun _ x => x.elim) (fun _ hg => .inl hg)
      have d0 : W4.drew.heap[D]? = _ := d3
      rw [hX0] at m0 x0 d0 ⊢
      clear hX0 m3 x3 d3
      simp only [List.size_toArray, List.length_cons, List.length_nil, Nat.reduceAdd]
      have q0 := (cells_of m0.v 0).1
      have q1 := (cells_of m0.u 0).1
      have q2 := (cells_of m0.at_ 0).1
      refine J_take (i := 4) (v := ?_) (fun X : World => X.cell? ⟨w.heap.size + 1, 0, none⟩ = some U ∧ X.cell? ⟨w.heap.size + 2, 0, none⟩ = some (.int .i64 a')) (fun j => decide (j < 9)) (by simp only [List.getElem?_toArray, List.getElem?_cons_succ, List.getElem?_cons_zero]; rfl) (by kernel_rfl) (by kernel_rfl) (by kernel_rfl) (by kernel_rfl) (by exact fun _ _ _ h => h) (fun j X hm h => h.1 (of_decide_eq_true hm)) (fun X h => ⟨fun _ => h, fun h4 h5 => absurd rfl (by first | exact h4 | exact h5)⟩) ⟨q1, q2⟩ (Or.inl ⟨by rfl, ?_⟩) ?_
      rotate_left
      · intro X hX; obtain ⟨hX1, hX2⟩ := hX; go_simp; (try with_reducible rfl)
      try simp only [Act.put, List.setIfInBounds_toArray, List.set_cons_zero, List.set_cons_succ]
      refine J_take (i := 5) (v := ?_) (fun X : World => X.cell? ⟨w.heap.size + 1, 0, none⟩ = some U ∧ X.cell? ⟨w.heap.size + 2, 0, none⟩ = some (.int .i64 a')) (fun j => decide (j < 9)) (by simp only [List.getElem?_toArray, List.getElem?_cons_succ, List.getElem?_cons_zero]; rfl) (by kernel_rfl) (by kernel_rfl) (by kernel_rfl) (by kernel_rfl) (by exact fun _ _ _ h => h) (fun j X hm h => h.1 (of_decide_eq_true hm)) (fun X h => ⟨fun _ => h, fun h4 h5 => absurd rfl (by first | exact h4 | exact h5)⟩) ⟨q1, q2⟩ (Or.inl ⟨by rfl, ?_⟩) ?_
      rotate_left
      · intro X hX; obtain ⟨hX1, hX2⟩ := hX; go_simp; (try with_reducible rfl)
      try simp only [Act.put, List.setIfInBounds_toArray, List.set_cons_zero, List.set_cons_succ]
      refine J_take (i := 0) (v := ?_) (fun X : World => (X.cell? ⟨w.heap.size + 1, 0, none⟩ = some U ∧ X.cell? ⟨w.heap.size + 2, 0, none⟩ = some (.int .i64 a')) ∧ (X.cell? ⟨w.heap.size, 0, none⟩ = some V ∧ X.heap[D]? = some (.cells #[.int .i64 f.z, .int .u8 f.k, .int .i64 f.s, .int .i64 f.t, .int .i64 f.x, .int .i64 f.m, .string ⟨f.path.toArray⟩, .slice pl.A f.data.length pl.c, .int .i64 f.ow, .int .i64 f.ve, .int .i64 f.cv, .int .i64 f.ti, .int .i64 f.er, .int .i64 f.c.1, .slice pl.B f.c.2.length pl.d, .slice pl.P d.length pl.e] 31 (0, 0)))) (fun j => decide (j < 8 ∧ j ≠ 4 ∧ j ≠ 5)) (by simp only [List.getElem?_toArray, List.getElem?_cons_zero]; rfl) (by kernel_rfl) (by kernel_rfl) (by kernel_rfl) (by kernel_rfl) (by exact fun _ _ _ h => h) (fun j X hm h => by have hm := of_decide_eq_true hm; exact ⟨h.1 (by omega), h.2 hm.2.1 hm.2.2 hm.1⟩) (fun X h => ⟨fun _ => h.1, fun _ _ _ => h.2⟩) ⟨⟨q1, q2⟩, q0, d0⟩ (Or.inl ⟨by rfl, ?_⟩) ?_
      rotate_left
      · intro X hX; obtain ⟨_, hX1, _⟩ := hX; go_simp; (try with_reducible rfl)
      try simp only [Act.put, List.setIfInBounds_toArray, List.set_cons_zero, List.set_cons_succ]
      refine J_take (i := 1) (v := .agg #[.int .i64 f.z, .int .u8 f.k, .int .i64 f.s, .int .i64 f.t, .int .i64 f.x, .int .i64 f.m, .string ⟨f.path.toArray⟩, .slice pl.A f.data.length pl.c, .int .i64 f.ow, .int .i64 f.ve, .int .i64 f.cv, .int .i64 f.ti, .int .i64 f.er, .int .i64 f.c.1, .slice pl.B f.c.2.length pl.d, .slice pl.P d.length pl.e]) (fun X : World => (X.cell? ⟨w.heap.size + 1, 0, none⟩ = some U ∧ X.cell? ⟨w.heap.size + 2, 0, none⟩ = some (.int .i64 a')) ∧ (X.cell? ⟨w.heap.size, 0, none⟩ = some V ∧ X.heap[D]? = some (.cells #[.int .i64 f.z, .int .u8 f.k, .int .i64 f.s, .int .i64 f.t, .int .i64 f.x, .int .i64 f.m, .string ⟨f.path.toArray⟩, .slice pl.A f.data.length pl.c, .int .i64 f.ow, .int .i64 f.ve, .int .i64 f.cv, .int .i64 f.ti, .int .i64 f.er, .int .i64 f.c.1, .slice pl.B f.c.2.length pl.d, .slice pl.P d.length pl.e] 31 (0, 0)))) (fun j => decide (j < 8 ∧ j ≠ 4 ∧ j ≠ 5)) (by simp only [List.getElem?_toArray, List.getElem?_cons_succ, List.getElem?_cons_zero]; rfl) (by kernel_rfl) (by kernel_rfl) (by kernel_rfl) (by kernel_rfl) (by exact fun _ _ _ h => h) (fun j X hm h => by have hm := of_decide_eq_true hm; exact ⟨h.1 (by omega), h.2 hm.2.1 hm.2.2 hm.1⟩) (fun X h => ⟨fun _ => h.1, fun _ _ _ => h.2⟩) ⟨⟨q1, q2⟩, q0, d0⟩ (yieldsIf_load_row (by rfl) 31 _ rfl D rfl _ _ _ _ (fun X h => h.2.2) Tryz.underlying31 rfl (size16)) ?_
      try simp only [Act.put, List.setIfInBounds_toArray, List.set_cons_zero, List.set_cons_succ]
      clear q0 q1 q2
      refine J_all (rs := [2, 6]) (by kernel_rfl) (by simp) (fun i hi => ?_)
      simp only [List.mem_cons, List.not_mem_nil, or_false] at hi
      rcases hi with rfl | rfl
      · refine J_oneH (by simp only [List.getElem?_toArray, List.getElem?_cons_succ, List.getElem?_cons_zero]; rfl) rfl (fun K hK => ?_)
        go_simp
        obtain ⟨X1, e1⟩ : ∃ X1, World.alloc X0 (.cells #[.int .i64 f.z, .int .u8 f.k, .int .i64 f.s, .int .i64 f.t, .int .i64 f.x, .int .i64 f.m, .string ⟨f.path.toArray⟩, .slice pl.A f.data.length pl.c, .int .i64 f.ow, .int .i64 f.ve, .int .i64 f.cv, .int .i64 f.ti, .int .i64 f.er, .int .i64 f.c.1, .slice pl.B f.c.2.length pl.d, .slice pl.P d.length pl.e] 31) = X1 := ⟨_, rfl⟩
        obtain ⟨B1, b1⟩ : ∃ B1, X0.heap.size = B1 := ⟨_, rfl⟩
        have f1 : Fr NoB X0 X1 := by rw [← e1]; exact (Fr.refl NoB _).alloc _
        have g1 : X1.heap[B1]? = some (.cells #[.int .i64 f.z, .int .u8 f.k, .int .i64 f.s, .int .i64 f.t, .int .i64 f.x, .int .i64 f.m, .string ⟨f.path.toArray⟩, .slice pl.A f.data.length pl.c, .int .i64 f.ow, .int .i64 f.ve, .int .i64 f.cv, .int .i64 f.ti, .int .i64 f.er, .int .i64 f.c.1, .slice pl.B f.c.2.length pl.d, .slice pl.P d.length pl.e] 31) := by rw [← e1, ← b1]; exact heap_alloc_new _ _
        have m1 := m0.no f1
        have d1 := f1.at_ d0 (fun x => x)
        have x1 := x0.keep f1 (fun _ x => x.elim) (fun _ hg => .inl hg)
        rw [e1, b1]
        clear e1 b1
        try simp only [Act.put, List.setIfInBounds_toArray, List.set_cons_zero, List.set_cons_succ]
        refine hK.out _ _ ⟨⟨fun _ => ⟨(cells_of m1.u 0).1, (cells_of m1.at_ 0).1⟩, fun _ _ _ => ⟨(cells_of m1.v 0).1, d1⟩⟩, ?_⟩
        refine J_all (rs := [3, 6]) (by kernel_rfl) (by simp) (fun i hi => ?_)
        simp only [List.mem_cons, List.not_mem_nil, or_false] at hi
        rcases hi with rfl | rfl
        · refine J_oneH (by simp only [List.getElem?_toArray, List.getElem?_cons_succ, List.getElem?_cons_zero]; rfl) rfl (fun K hK => ?_)
          refine wp_append_src X1 (.tmp 35) (.tmp 37) 29 rfl (w.heap.size + 7) 31 i0 (.agg (dcells (bareF 0) pl0 0)) 16 184 Tryz.underlying29 hi0 hz0 hz1 hz2 rfl (by decide) V LL.length (dsv LL) rfl m1.de.own _ 1 1 (dsv [((f, d), pl)]) rfl (by simp [dsv_one, dcells]) (fun _ => ⟨_, rfl, by rw [dsv_one]; exact World.news_of_block g1⟩) (dsv_oneCell _) (by unfold maxLen; omega) (by omega) (by have := Lib.lt_of_heap m1.lp; omega) ?_
          intro V' X2 h2
          have m2 := m1.app h2 (.inl rfl) (m1.de.pushV x1 h2)
          have d2 := h2.fr.at_ d1 hVD
          obtain ⟨A3, n3, c3, rfl⟩ : ∃ A3 n3 c3, V' = .slice A3 n3 c3 := by obtain ⟨A, c, e, -, -⟩ := own_form4 m2.de.own; exact ⟨A, _, c, e⟩
          try simp only [Act.put, List.setIfInBounds_toArray, List.set_cons_zero, List.set_cons_succ]
          refine hK.out _ _ ⟨⟨fun _ => ⟨(cells_of m2.u 0).1, (cells_of m2.at_ 0).1⟩, fun _ _ _ => ⟨(cells_of m2.v 0).1, d2⟩⟩, ?_⟩
          refine J_all (rs := [6]) (by kernel_rfl) (by simp) (fun i hi => ?_)
          simp only [List.mem_cons, List.not_mem_nil, or_false] at hi
          rcases hi with rfl
          · refine J_oneH (by simp only [List.getElem?_toArray, List.getElem?_cons_succ, List.getElem?_cons_zero]; rfl) rfl (fun K hK => ?_)
            go_simp
            obtain ⟨X3, e3⟩ : ∃ X3, World.alloc X2 (.cells #[.int .i64 a'] 3) = X3 := ⟨_, rfl⟩
            obtain ⟨B3, b3⟩ : ∃ B3, X2.heap.size = B3 := ⟨_, rfl⟩
            have f3 : Fr NoB X2 X3 := by rw [← e3]; exact (Fr.refl NoB _).alloc _
            have g3 : X3.heap[B3]? = some (.cells #[.int .i64 a'] 3) := by rw [← e3, ← b3]; exact heap_alloc_new _ _
            have m3 := m2.no f3
            have d3 := f3.at_ d2 (fun x => x)
            rw [e3, b3]
            clear e3 b3
            try simp only [Act.put, List.setIfInBounds_toArray, List.set_cons_zero, List.set_cons_succ]
            refine hK.out _ _ ⟨⟨fun _ => ⟨(cells_of m3.u 0).1, (cells_of m3.at_ 0).1⟩, fun _ _ _ => ⟨(cells_of m3.v 0).1, d3⟩⟩, ?_⟩
            refine J_all (rs := [7]) (by kernel_rfl) (by simp) (fun i hi => ?_)
            simp only [List.mem_cons, List.not_mem_nil, or_false] at hi
            rcases hi with rfl
            · refine J_oneH (by simp only [List.getElem?_toArray, List.getElem?_cons_succ, List.getElem?_cons_zero]; rfl) rfl (fun K hK => ?_)
              refine wp_append_src X3 (.tmp 39) (.tmp 41) 37 rfl (w.heap.size + 7) 3 j0 (.int .i64 0) 1 8 Tryz.underlying37 hj0 hy0 hy1 hy2 rfl (by decide) U (endZ ds).length (nvs (endZ ds)) rfl m3.de.ends _ 1 1 (nvs [a']) rfl rfl (fun _ => ⟨_, rfl, World.news_of_block g3⟩) (by simp [nvs, Value.oneCell']) (by unfold maxLen; omega) (by omega) (by have := Lib.lt_of_heap m3.lp; omega) ?_
              intro U' X4 h4
              have m4 := m3.app h4 (.inr rfl) (m3.de.pushU h4)
              have d4 := h4.fr.at_ d3 hUD
              obtain ⟨A7, n7, c7, rfl⟩ : ∃ A7 n7 c7, U' = .slice A7 n7 c7 := by obtain ⟨A, c, e, -, -⟩ := own_form4 m4.de.ends; exact ⟨A, _, c, e⟩
              try simp only [Act.put, List.setIfInBounds_toArray, List.set_cons_zero, List.set_cons_succ]
              refine hK.out _ _ ⟨⟨fun _ => ⟨(cells_of m4.u 0).1, (cells_of m4.at_ 0).1⟩, fun _ _ _ => ⟨(cells_of m4.v 0).1, d4⟩⟩, ?_⟩
              refine J_all (rs := [8]) (by kernel_rfl) (by simp) (fun i hi => ?_)
              simp only [List.mem_cons, List.not_mem_nil, or_false] at hi
              rcases hi with rfl
              · refine J_oneH (by simp only [List.getElem?_toArray, List.getElem?_cons_succ, List.getElem?_cons_zero]; rfl) rfl (fun K hK => ?_)
                have c5 := (cells_of m4.v 0).1
                have z5 := (cells_of m4.v 0).2
                have m5 := m4.setV (.slice A3 n3 c3)
                go_simp
                generalize World.setCell X4 _ _ = X5 at m5 ⊢
                try simp only [Act.put, List.setIfInBounds_toArray, List.set_cons_zero, List.set_cons_succ]
                refine hK.out _ _ ⟨⟨fun _ => ⟨(cells_of m5.u 0).1, (cells_of m5.at_ 0).1⟩, fun _ _ x => absurd x (by omega)⟩, ?_⟩
                refine J_all (rs := [9]) (by kernel_rfl) (by simp) (fun i hi => ?_)
                simp only [List.mem_cons, List.not_mem_nil, or_false] at hi
                rcases hi with rfl
                · refine J_oneH (by simp only [List.getElem?_toArray, List.getElem?_cons_succ, List.getElem?_cons_zero]; rfl) rfl (fun K hK => ?_)
                  have c6 := (cells_of m5.u 0).1
                  have z6 := (cells_of m5.u 0).2
                  have m6 := m5.setU (.slice A7 n7 c7)
                  go_simp
                  generalize World.setCell X5 _ _ = X6 at m6 ⊢
                  try simp only [Act.put, List.setIfInBounds_toArray, List.set_cons_zero, List.set_cons_succ]
                  refine hK.out _ _ ⟨⟨fun x => absurd x (by omega), fun _ _ x => absurd x (by omega)⟩, ?_⟩
                  refine J_done (by kernel_rfl) ?_
                  gi_wp2
                  obtain ⟨y, y1, y2, y3⟩ := fin _ _ _ m6
                  exact ⟨y, y1, by omega, y3⟩
        · refine J_oneH (by simp only [List.getElem?_toArray, List.getElem?_cons_succ, List.getElem?_cons_zero]; rfl) rfl (fun K hK => ?_)
          go_simp
          obtain ⟨X2, e2⟩ : ∃ X2, World.alloc X1 (.cells #[.int .i64 a'] 3) = X2 := ⟨_, rfl⟩
          obtain ⟨B2, b2⟩ : ∃ B2, X1.heap.size = B2 := ⟨_, rfl⟩
          have f2 : Fr NoB X1 X2 := by rw [← e2]; exact (Fr.refl NoB _).alloc _
          have g2 : X2.heap[B2]? = some (.cells #[.int .i64 a'] 3) := by rw [← e2, ← b2]; exact heap_alloc_new _ _
          have m2 := m1.no f2
          have d2 := f2.at_ d1 (fun x => x)
          have x2 := x1.keep f2 (fun _ x => x.elim) (fun _ hg => .inl hg)
          have g2_2 := f2.at_ g1 (fun x => x)
          have hv6 : ¬ V.ownBlock = some B2 := fun hx => by have := m1.de.own.lt _ hx; omega
          rw [e2, b2]
          clear e2 b2
          try simp only [Act.put, List.setIfInBounds_toArray, List.set_cons_zero, List.set_cons_succ]
          refine hK.out _ _ ⟨⟨fun _ => ⟨(cells_of m2.u 0).1, (cells_of m2.at_ 0).1⟩, fun _ _ _ => ⟨(cells_of m2.v 0).1, d2⟩⟩, ?_⟩
          refine J_all (rs := [3]) (by kernel_rfl) (by simp) (fun i hi => ?_)
          simp only [List.mem_cons, List.not_mem_nil, or_false] at hi
          rcases hi with rfl
          · refine J_oneH (by simp only [List.getElem?_toArray, List.getElem?_cons_succ, List.getElem?_cons_zero]; rfl) rfl (fun K hK => ?_)
            refine wp_append_src X2 (.tmp 35) (.tmp 37) 29 rfl (w.heap.size + 7) 31 i0 (.agg (dcells (bareF 0) pl0 0)) 16 184 Tryz.underlying29 hi0 hz0 hz1 hz2 rfl (by decide) V LL.length (dsv LL) rfl m2.de.own _ 1 1 (dsv [((f, d), pl)]) rfl (by simp [dsv_one, dcells]) (fun _ => ⟨_, rfl, by rw [dsv_one]; exact World.news_of_block g2_2⟩) (dsv_oneCell _) (by unfold maxLen; omega) (by omega) (by have := Lib.lt_of_heap m2.lp; omega) ?_
            intro V' X3 h3
            have m3 := m2.app h3 (.inl rfl) (m2.de.pushV x2 h3)
            have d3 := h3.fr.at_ d2 hVD
            have g6_3 := h3.fr.at_ g2 hv6
            obtain ⟨A3, n3, c3, rfl⟩ : ∃ A3 n3 c3, V' = .slice A3 n3 c3 := by obtain ⟨A, c, e, -, -⟩ := own_form4 m3.de.own; exact ⟨A, _, c, e⟩
            try simp only [Act.put, List.setIfInBounds_toArray, List.set_cons_zero, List.set_cons_succ]
            refine hK.out _ _ ⟨⟨fun _ => ⟨(cells_of m3.u 0).1, (cells_of m3.at_ 0).1⟩, fun _ _ _ => ⟨(cells_of m3.v 0).1, d3⟩⟩, ?_⟩
            refine J_all (rs := [7]) (by kernel_rfl) (by simp) (fun i hi => ?_)
            simp only [List.mem_cons, List.not_mem_nil, or_false] at hi
            rcases hi with rfl
            · refine J_oneH (by simp only [List.getElem?_toArray, List.getElem?_cons_succ, List.getElem?_cons_zero]; rfl) rfl (fun K hK => ?_)
              refine wp_append_src X3 (.tmp 39) (.tmp 41) 37 rfl (w.heap.size + 7) 3 j0 (.int .i64 0) 1 8 Tryz.underlying37 hj0 hy0 hy1 hy2 rfl (by decide) U (endZ ds).length (nvs (endZ ds)) rfl m3.de.ends _ 1 1 (nvs [a']) rfl rfl (fun _ => ⟨_, rfl, World.news_of_block g6_3⟩) (by simp [nvs, Value.oneCell']) (by unfold maxLen; omega) (by omega) (by have := Lib.lt_of_heap m3.lp; omega) ?_
              intro U' X4 h4
              have m4 := m3.app h4 (.inr rfl) (m3.de.pushU h4)
              have d4 := h4.fr.at_ d3 hUD
              obtain ⟨A7, n7, c7, rfl⟩ : ∃ A7 n7 c7, U' = .slice A7 n7 c7 := by obtain ⟨A, c, e, -, -⟩ := own_form4 m4.de.ends; exact ⟨A, _, c, e⟩
              try simp only [Act.put, List.setIfInBounds_toArray, List.set_cons_zero, List.set_cons_succ]
              refine hK.out _ _ ⟨⟨fun _ => ⟨(cells_of m4.u 0).1, (cells_of m4.at_ 0).1⟩, fun _ _ _ => ⟨(cells_of m4.v 0).1, d4⟩⟩, ?_⟩
              refine J_all (rs := [8]) (by kernel_rfl) (by simp) (fun i hi => ?_)
              simp only [List.mem_cons, List.not_mem_nil, or_false] at hi
              rcases hi with rfl
              · refine J_oneH (by simp only [List.getElem?_toArray, List.getElem?_cons_succ, List.getElem?_cons_zero]; rfl) rfl (fun K hK => ?_)
                have c5 := (cells_of m4.v 0).1
                have z5 := (cells_of m4.v 0).2
                have m5 := m4.setV (.slice A3 n3 c3)
                go_simp
                generalize World.setCell X4 _ _ = X5 at m5 ⊢
                try simp only [Act.put, List.setIfInBounds_toArray, List.set_cons_zero, List.set_cons_succ]
                refine hK.out _ _ ⟨⟨fun _ => ⟨(cells_of m5.u 0).1, (cells_of m5.at_ 0).1⟩, fun _ _ x => absurd x (by omega)⟩, ?_⟩
                refine J_all (rs := [9]) (by kernel_rfl) (by simp) (fun i hi => ?_)
                simp only [List.mem_cons, List.not_mem_nil, or_false] at hi
                rcases hi with rfl
                · refine J_oneH (by simp only [List.getElem?_toArray, List.getElem?_cons_succ, List.getElem?_cons_zero]; rfl) rfl (fun K hK => ?_)
                  have c6 := (cells_of m5.u 0).1
                  have z6 := (cells_of m5.u 0).2
                  have m6 := m5.setU (.slice A7 n7 c7)
                  go_simp
                  generalize World.setCell X5 _ _ = X6 at m6 ⊢
                  try simp only [Act.put, List.setIfInBounds_toArray, List.set_cons_zero, List.set_cons_succ]
                  refine hK.out _ _ ⟨⟨fun x => absurd x (by omega), fun _ _ x => absurd x (by omega)⟩, ?_⟩
                  refine J_done (by kernel_rfl) ?_
                  gi_wp2
                  obtain ⟨y, y1, y2, y3⟩ := fin _ _ _ m6
                  exact ⟨y, y1, by omega, y3⟩
      · refine J_oneH (by simp only [List.getElem?_toArray, List.getElem?_cons_succ, List.getElem?_cons_zero]; rfl) rfl (fun K hK => ?_)
        go_simp
        obtain ⟨X1, e1⟩ : ∃ X1, World.alloc X0 (.cells #[.int .i64 a'] 3) = X1 := ⟨_, rfl⟩
        obtain ⟨B1, b1⟩ : ∃ B1, X0.heap.size = B1 := ⟨_, rfl⟩
        have f1 : Fr NoB X0 X1 := by rw [← e1]; exact (Fr.refl NoB _).alloc _
        have g1 : X1.heap[B1]? = some (.cells #[.int .i64 a'] 3) := by rw [← e1, ← b1]; exact heap_alloc_new _ _
        have m1 := m0.no f1
        have d1 := f1.at_ d0 (fun x => x)
        have x1 := x0.keep f1 (fun _ x => x.elim) (fun _ hg => .inl hg)
        have hv6 : ¬ V.ownBlock = some B1 := fun hx => by have := m0.de.own.lt _ hx; omega
        rw [e1, b1]
        clear e1 b1
        try simp only [Act.put, List.setIfInBounds_toArray, List.set_cons_zero, List.set_cons_succ]
        refine hK.out _ _ ⟨⟨fun _ => ⟨(cells_of m1.u 0).1, (cells_of m1.at_ 0).1⟩, fun _ _ _ => ⟨(cells_of m1.v 0).1, d1⟩⟩, ?_⟩
        refine J_all (rs := [2]) (by kernel_rfl) (by simp) (fun i hi => ?_)
        simp only [List.mem_cons, List.not_mem_nil, or_false] at hi
        rcases hi with rfl
        · refine J_oneH (by simp only [List.getElem?_toArray, List.getElem?_cons_succ, List.getElem?_cons_zero]; rfl) rfl (fun K hK => ?_)
          go_simp
          obtain ⟨X2, e2⟩ : ∃ X2, World.alloc X1 (.cells #[.int .i64 f.z, .int .u8 f.k, .int .i64 f.s, .int .i64 f.t, .int .i64 f.x, .int .i64 f.m, .string ⟨f.path.toArray⟩, .slice pl.A f.data.length pl.c, .int .i64 f.ow, .int .i64 f.ve, .int .i64 f.cv, .int .i64 f.ti, .int .i64 f.er, .int .i64 f.c.1, .slice pl.B f.c.2.length pl.d, .slice pl.P d.length pl.e] 31) = X2 := ⟨_, rfl⟩
          obtain ⟨B2, b2⟩ : ∃ B2, X1.heap.size = B2 := ⟨_, rfl⟩
          have f2 : Fr NoB X1 X2 := by rw [← e2]; exact (Fr.refl NoB _).alloc _
          have g2 : X2.heap[B2]? = some (.cells #[.int .i64 f.z, .int .u8 f.k, .int .i64 f.s, .int .i64 f.t, .int .i64 f.x, .int .i64 f.m, .string ⟨f.path.toArray⟩, .slice pl.A f.data.length pl.c, .int .i64 f.ow, .int .i64 f.ve, .int .i64 f.cv, .int .i64 f.ti, .int .i64 f.er, .int .i64 f.c.1, .slice pl.B f.c.2.length pl.d, .slice pl.P d.length pl.e] 31) := by rw [← e2, ← b2]; exact heap_alloc_new _ _
          have m2 := m1.no f2
          have d2 := f2.at_ d1 (fun x => x)
          have x2 := x1.keep f2 (fun _ x => x.elim) (fun _ hg => .inl hg)
          have g6_2 := f2.at_ g1 (fun x => x)
          rw [e2, b2]
          clear e2 b2
          try simp only [Act.put, List.setIfInBounds_toArray, List.set_cons_zero, List.set_cons_succ]
          refine hK.out _ _ ⟨⟨fun _ => ⟨(cells_of m2.u 0).1, (cells_of m2.at_ 0).1⟩, fun _ _ _ => ⟨(cells_of m2.v 0).1, d2⟩⟩, ?_⟩
          refine J_all (rs := [3]) (by kernel_rfl) (by simp) (fun i hi => ?_)
          simp only [List.mem_cons, List.not_mem_nil, or_false] at hi
          rcases hi with rfl
          · refine J_oneH (by simp only [List.getElem?_toArray, List.getElem?_cons_succ, List.getElem?_cons_zero]; rfl) rfl (fun K hK => ?_)
            refine wp_append_src X2 (.tmp 35) (.tmp 37) 29 rfl (w.heap.size + 7) 31 i0 (.agg (dcells (bareF 0) pl0 0)) 16 184 Tryz.underlying29 hi0 hz0 hz1 hz2 rfl (by decide) V LL.length (dsv LL) rfl m2.de.own _ 1 1 (dsv [((f, d), pl)]) rfl (by simp [dsv_one, dcells]) (fun _ => ⟨_, rfl, by rw [dsv_one]; exact World.news_of_block g2⟩) (dsv_oneCell _) (by unfold maxLen; omega) (by omega) (by have := Lib.lt_of_heap m2.lp; omega) ?_
            intro V' X3 h3
            have m3 := m2.app h3 (.inl rfl) (m2.de.pushV x2 h3)
            have d3 := h3.fr.at_ d2 hVD
            have g6_3 := h3.fr.at_ g6_2 hv6
            obtain ⟨A3, n3, c3, rfl⟩ : ∃ A3 n3 c3, V' = .slice A3 n3 c3 := by obtain ⟨A, c, e, -, -⟩ := own_form4 m3.de.own; exact ⟨A, _, c, e⟩
            try simp only [Act.put, List.setIfInBounds_toArray, List.set_cons_zero, List.set_cons_succ]
            refine hK.out _ _ ⟨⟨fun _ => ⟨(cells_of m3.u 0).1, (cells_of m3.at_ 0).1⟩, fun _ _ _ => ⟨(cells_of m3.v 0).1, d3⟩⟩, ?_⟩
            refine J_all (rs := [7]) (by kernel_rfl) (by simp) (fun i hi => ?_)
            simp only [List.mem_cons, List.not_mem_nil, or_false] at hi
            rcases hi with rfl
            · refine J_oneH (by simp only [List.getElem?_toArray, List.getElem?_cons_succ, List.getElem?_cons_zero]; rfl) rfl (fun K hK => ?_)
              refine wp_append_src X3 (.tmp 39) (.tmp 41) 37 rfl (w.heap.size + 7) 3 j0 (.int .i64 0) 1 8 Tryz.underlying37 hj0 hy0 hy1 hy2 rfl (by decide) U (endZ ds).length (nvs (endZ ds)) rfl m3.de.ends _ 1 1 (nvs [a']) rfl rfl (fun _ => ⟨_, rfl, World.news_of_block g6_3⟩) (by simp [nvs, Value.oneCell']) (by unfold maxLen; omega) (by omega) (by have := Lib.lt_of_heap m3.lp; omega) ?_
              intro U' X4 h4
              have m4 := m3.app h4 (.inr rfl) (m3.de.pushU h4)
              have d4 := h4.fr.at_ d3 hUD
              obtain ⟨A7, n7, c7, rfl⟩ : ∃ A7 n7 c7, U' = .slice A7 n7 c7 := by obtain ⟨A, c, e, -, -⟩ := own_form4 m4.de.ends; exact ⟨A, _, c, e⟩
              try simp only [Act.put, List.setIfInBounds_toArray, List.set_cons_zero, List.set_cons_succ]
              refine hK.out _ _ ⟨⟨fun _ => ⟨(cells_of m4.u 0).1, (cells_of m4.at_ 0).1⟩, fun _ _ _ => ⟨(cells_of m4.v 0).1, d4⟩⟩, ?_⟩
              refine J_all (rs := [8]) (by kernel_rfl) (by simp) (fun i hi => ?_)
              simp only [List.mem_cons, List.not_mem_nil, or_false] at hi
              rcases hi with rfl
              · refine J_oneH (by simp only [List.getElem?_toArray, List.getElem?_cons_succ, List.getElem?_cons_zero]; rfl) rfl (fun K hK => ?_)
                have c5 := (cells_of m4.v 0).1
                have z5 := (cells_of m4.v 0).2
                have m5 := m4.setV (.slice A3 n3 c3)
                go_simp
                generalize World.setCell X4 _ _ = X5 at m5 ⊢
                try simp only [Act.put, List.setIfInBounds_toArray, List.set_cons_zero, List.set_cons_succ]
                refine hK.out _ _ ⟨⟨fun _ => ⟨(cells_of m5.u 0).1, (cells_of m5.at_ 0).1⟩, fun _ _ x => absurd x (by omega)⟩, ?_⟩
                refine J_all (rs := [9]) (by kernel_rfl) (by simp) (fun i hi => ?_)
                simp only [List.mem_cons, List.not_mem_nil, or_false] at hi
                rcases hi with rfl
                · refine J_oneH (by simp only [List.getElem?_toArray, List.getElem?_cons_succ, List.getElem?_cons_zero]; rfl) rfl (fun K hK => ?_)
                  have c6 := (cells_of m5.u 0).1
                  have z6 := (cells_of m5.u 0).2
                  have m6 := m5.setU (.slice A7 n7 c7)
                  go_simp
                  generalize World.setCell X5 _ _ = X6 at m6 ⊢
                  try simp only [Act.put, List.setIfInBounds_toArray, List.set_cons_zero, List.set_cons_succ]
                  refine hK.out _ _ ⟨⟨fun x => absurd x (by omega), fun _ _ x => absurd x (by omega)⟩, ?_⟩
                  refine J_done (by kernel_rfl) ?_
                  gi_wp2
                  obtain ⟨y, y1, y2, y3⟩ := fin _ _ _ m6
                  exact ⟨y, y1, by omega, y3⟩
    · exact ⟨rfl, .inl hg, hp2⟩
  case done =>
    intro q L W hp
    obtain ⟨A', c', A2, c2, LL, hL, hD, hF, k0, k1, k2, kd⟩ := hend q L W hp
    gi_wp2
    gi_region
    gi_wp2
    refine ⟨by simp, .inl ⟨_, _, rfl, run_takeDeferred kd, ?_⟩⟩
    exact ⟨_, results_tmp3 rfl _ _ _, ⟨A', c', A2, c2, LL, rfl, hL, hD, hF⟩⟩
  case stop =>
    intro q L W hp
    obtain ⟨A', c', A2, c2, LL, hL, hD, hF, k0, k1, k2, kd⟩ := hend q L W hp
    gi_wp2
    gi_region
    gi_wp2
    refine ⟨by simp, .inl ⟨_, _, rfl, run_takeDeferred kd, ?_⟩⟩
    exact ⟨_, results_tmp3 rfl _ _ _, ⟨A', c', A2, c2, LL, rfl, hL, hD, hF⟩⟩
end Go.Proofs.YtmlmbahimklfiaaGreatDoor
