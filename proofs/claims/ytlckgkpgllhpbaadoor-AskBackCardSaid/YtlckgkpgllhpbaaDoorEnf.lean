/-
  Enf: End, Enf.
-/
import Derived.Test.YtlckgkpgllhpbaaDoorEnb
import Derived.Test.YtlckgkpgllhpbaaDoorEne
/- End -/
namespace Go.Proofs.YtlckgkpgllhpbaaDoor
open Go.RowKit

def findM (ms : List Mem) (id : Int) : Option Mem := ms.find? fun m => m.1 == id
def votM (ms : List Mem) (id : Int) : Bool := match findM ms id with
  | none => false
  | some m => m.2.1 == 1
theorem find_hit {ms : List Mem} {k : Nat} {m : Mem} {id : Int} (h : ms[k]? = some m) (hn : findM (ms.take k) id = none) (hm : m.1 = id) : findM ms id = some m := by
  have hk := List.getElem?_eq_some_iff.1 h
  unfold findM at *
  rw [← List.take_append_drop k ms, List.find?_append, hn, List.drop_eq_getElem_cons hk.1, hk.2]
  simp [hm]
theorem find_step {ms : List Mem} {k : Nat} {m : Mem} {id : Int} (h : ms[k]? = some m) (hn : findM (ms.take k) id = none) (hm : m.1 ≠ id) : findM (ms.take (k + 1)) id = none := by
  unfold findM at *
  rw [List.take_add_one, h, List.find?_append, hn]
  simp [hm]

theorem alloc_st (w : World) (o : Obj) (n : Nat) (hn : w.heap.size = n) : (w.alloc o).heap.size = n + 1 ∧ (w.alloc o).heap[n]? = some o ∧ ∀ (k : Nat) (v : Obj), w.heap[k]? = some v → (w.alloc o).heap[k]? = some v := by
  subst hn
  exact ⟨by simp, heap_alloc_new w o, fun k v h => (Below.heap_alloc w o k (Lib.lt_of_heap h)).trans h⟩
/-- A member's four values, or four zeros. -/
def memOr (o : Option Mem) : Value := match o with
  | none => .agg #[.int .i64 0, .int .u8 0, .int .i64 0, .int .i64 0]
  | some m => .agg #[.int .i64 m.1, .int .u8 m.2.1, .int .i64 m.2.2.1, .int .i64 m.2.2.2]

theorem results_row_tmp {P : Program} {fn : Func} {p u : Tmp} {ty : TypeId} (h : fn.results = #[.cell p ty, .tmp u]) (tmps : Array Value) (w : World) (g : Nat) (t : TypeId) (cs : Array Value) (fr : Nat × Nat) (d : TypeDesc)
    (hp : tmps.getD p undef = .pointer (some ⟨g, 0, none⟩)) (hg : w.heap[g]? = some (.cells cs t fr))
    (hu : P.underlying ty = some d) (hd : (match d with | .struct _ | .array _ _ => true | _ => false) = true) (hi : (P.info? ty).map (·.size) = some cs.size) :
    (results fn tmps).run P w = .ok (.tuple #[.agg cs, tmps.getD u undef]) w := by
  rw [results_cell_tmp h, hp]
  simp [asAddr, run_loadVar_row w g t ty cs fr d hg hu hd hi]
theorem four_set {w : World} {N : Nat} {t : TypeId} {x0 x1 x2 x3 : Value} (h : w.heap[N]? = some (.cells #[.int .i64 0, .int .u8 0, .int .i64 0, .int .i64 0] t (0, 0))) :
    ((((w.setCell ⟨N, 0, none⟩ x0).setCell ⟨N, 1, none⟩ x1).setCell ⟨N, 2, none⟩ x2).setCell ⟨N, 3, none⟩ x3).heap[N]? = some (.cells #[x0, x1, x2, x3] t (0, 0)) := by
  rw [heap_set (heap_set (heap_set (heap_set h x0) x1) x2) x3]
  rfl
theorem four_fr {w0 w : World} (h : Fr NoB w0 w) (N : Nat) (hN : w0.heap.size ≤ N) (x0 x1 x2 x3 : Value) : Fr NoB w0 ((((w.setCell ⟨N, 0, none⟩ x0).setCell ⟨N, 1, none⟩ x1).setCell ⟨N, 2, none⟩ x2).setCell ⟨N, 3, none⟩ x3) :=
  (((h.setCell (p := ⟨N, 0, none⟩) (fun k => absurd k (by simp only; omega)) _).setCell (p := ⟨N, 1, none⟩) (fun k => absurd k (by simp only; omega)) _).setCell (p := ⟨N, 2, none⟩) (fun k => absurd k (by simp only; omega)) _).setCell (p := ⟨N, 3, none⟩) (fun k => absurd k (by simp only; omega)) _

end Go.Proofs.YtlckgkpgllhpbaaDoor

/- Enf -/
namespace Go.Proofs.YtlckgkpgllhpbaaDoor
open Go.RowKit

theorem rCount_range (st : RSt) (m : Int) (hm : 0 ≤ m) : 0 ≤ (rCount st m).1 ∧ (rCount st m).1 ≤ m := by
  unfold rCount
  simp only
  split
  · simp; exact hm
  · simp only; omega
theorem info_mem : (Tryd.prog.info? 106).map (fun i => (i.zero, i.size, i.bytes)) = some (some (.agg #[.int .i64 0, .int .u8 0, .int .i64 0, .int .i64 0]), 4, 32) := by kernel_rfl

/-- What Get holds in its loop: a reader, the config under way in block E, its members a row of the call's own. -/
structure GeW (wb w : World) (lo p E : Nat) (v : Int) (V : Value) (l : List Mem) (st : RSt) : Prop where
  a : Rdr w lo p st
  fr : Fr NoB wb w
  lo1 : wb.heap.size ≤ lo
  lo2 : lo ≤ p
  pE : p < E
  bx : w.heap[E]? = some (.cells #[.int .i64 v, V] 40 (0, 0))
  own : w.ownsRow (E + 1) 106 4 V l.length (mv l)
theorem GeW.read {wb w w' : World} {lo p E : Nat} {v : Int} {V : Value} {l : List Mem} {st st' : RSt} (h : GeW wb w lo p E v V l st) (a : Rdr w' lo p st') (f : Fr (OneB p) w w') : GeW wb w' lo p E v V l st' :=
  ⟨a, h.fr.upE f (fun k hk => by have := h.lo1; have := h.lo2; simp only [OneB] at hk; omega), h.lo1, h.lo2, h.pE, f.at_ h.bx (by have := h.pE; simp only [OneB]; omega),
    own_keep h.own fun g hg => f.block g (h.own.lt g hg).2 (by have := h.pE; have := (h.own.lt g hg).1; simp only [OneB]; omega)⟩
theorem GeW.keep {wb w w' : World} {lo p E : Nat} {v : Int} {V : Value} {l : List Mem} {st : RSt} (h : GeW wb w lo p E v V l st) (f : Fr NoB w w') : GeW wb w' lo p E v V l st :=
  ⟨h.a.fr f (fun _ _ _ x => x) h.lo2, h.fr.then f, h.lo1, h.lo2, h.pE, f.at_ h.bx (fun x => x), own_keep h.own fun g hg => f.block g (h.own.lt g hg).2 (fun x => x)⟩

theorem GeW.set {wb w : World} {lo p E : Nat} {v : Int} {V : Value} {l : List Mem} {st : RSt} (h : GeW wb w lo p E v V l st) (K i : Nat) (hK : E < K) (hV : ∀ g, V.ownBlock = some g → g ≠ K) (u : Value) : GeW wb (w.setCell ⟨K, i, none⟩ u) lo p E v V l st := by
  have f : Fr (OneB K) w (w.setCell ⟨K, i, none⟩ u) := (Fr.refl (OneB K) w).setCell (p := ⟨K, i, none⟩) (fun _ => rfl) u
  have h1 := h.lo1
  have h2 := h.lo2
  have h3 := h.pE
  exact ⟨h.a.fr f (fun k _ hk hx => by simp only [OneB] at hx; omega) h.lo2, h.fr.setCell (p := ⟨K, i, none⟩) (fun k => absurd k (by simp only; omega)) u, h.lo1, h.lo2, h.pE, f.at_ h.bx (by simp only [OneB]; omega), own_keep h.own fun g hg => f.block g (h.own.lt g hg).2 (hV g hg)⟩

theorem own_form4 {w : World} {base e n size : Nat} {v : Value} {xs : List Value} (h : w.ownsRow base e size v n xs) : ∃ A c, v = .slice A n c ∧ n ≤ c ∧ c ≤ maxLen := by
  rcases h.2 with ⟨rfl, rfl⟩ | ⟨g, cap, cur, rfl, _, _, h1, h2, _⟩
  · exact ⟨none, 0, rfl, Nat.le_refl _, Nat.zero_le _⟩
  · exact ⟨_, cap, rfl, h1, h2⟩
theorem src_block (w : World) (cs : Array Value) (t : TypeId) (ys : List Value) (h : cs.toList = ys) : ∃ ad, some (⟨w.heap.size, 0, none⟩ : Addr) = some ad ∧ ∀ (j : Nat) (u : Value), ys[j]? = some u → (w.alloc (.cells cs t)).cell? (ad.add j) = some u := by
  subst h
  refine ⟨_, rfl, fun j u hj => ?_⟩
  rw [Lib.addr_add, Lib.cell_of_heap (heap_alloc_new w _)]
  simpa using hj
theorem two_set {w : World} {N : Nat} {t : TypeId} {x0 x1 : Value} (h : w.heap[N]? = some (.cells #[.int .i64 0, .slice none 0 0] t (0, 0))) :
    ((w.setCell ⟨N, 0, none⟩ x0).setCell ⟨N, 1, none⟩ x1).heap[N]? = some (.cells #[x0, x1] t (0, 0)) := by
  rw [heap_set (heap_set h x0) x1]
  rfl
theorem GeW.old {wb w : World} {lo p E : Nat} {v : Int} {V v' : Value} {l : List Mem} {st : RSt} {m : Mem} {o : Obj} {wA : World} (h : GeW wb w lo p E v V l st) (hA : App (E + 1) 106 4 V (l.length + 1) (mv l ++ mv [m]) (w.alloc o) v' wA) : wA.heap[E]? = some (.cells #[.int .i64 v, V] 40 (0, 0)) :=
  hA.fr.at_ (((Fr.refl NoB w).alloc o).at_ h.bx (fun x => x)) (fun hx => by have := (h.own.lt E hx).1; omega)
theorem GeW.push {wb w : World} {lo p E : Nat} {v : Int} {V v' : Value} {l : List Mem} {st : RSt} {m : Mem} {o : Obj} {wA : World} (h : GeW wb w lo p E v V l st) (hA : App (E + 1) 106 4 V (l.length + 1) (mv l ++ mv [m]) (w.alloc o) v' wA) : GeW wb (wA.setCell ⟨E, 1, none⟩ v') lo p E v v' (l ++ [m]) st := by
  have h1 := h.lo1
  have h2 := h.lo2
  have h3 := h.pE
  have hV : ∀ k, V.ownBlock = some k → E + 1 ≤ k := fun k hk => (h.own.lt k hk).1
  have fa : Fr (OneB E) wA (wA.setCell ⟨E, 1, none⟩ v') := (Fr.refl (OneB E) wA).setCell (p := ⟨E, 1, none⟩) (fun _ => rfl) v'
  refine ⟨?_, ?_, h1, h2, h3, ?_, ?_⟩
  · exact ((h.a.fr ((Fr.refl NoB w).alloc o) (fun _ _ _ x => x) h2).fr hA.fr (fun k _ hk hx => by have := hV k hx; omega) h2).fr fa (fun k _ hk hx => by simp only [OneB] at hx; omega) h2
  · exact ((h.fr.alloc o).upE hA.fr (fun k hk => by have := hV k hk; omega)).setCell (p := ⟨E, 1, none⟩) (fun k => absurd k (by simp only; omega)) v'
  · rw [heap_set (h.old hA)]; rfl
  · have := hA.own
    rw [← mv_append] at this
    rw [List.length_append]
    exact own_keep this fun g hg => Below.heap_setCell _ _ _ _ (by have := (this.lt g hg).1; simp only; omega)

set_option maxRecDepth 8000 in
set_option maxHeartbeats 6400000 in
theorem get_config (A : Option Addr) (b : List UInt8) (c lo hi : Nat) (w : World) (h : Rd w lo hi A b) (hh : hi ≤ w.heap.size) (hl : b.length ≤ 140737488355328) (v : Int) (ms : List Mem) (hg : getR b = (v, ms, some [])) (hck : chk v ms = 0) :
    Calls Tryd.prog 91 #[.slice A b.length c] w fun e w' => ∃ A' c', e = .returned (.tuple #[.agg #[.int .i64 v, .slice A' ms.length c'], .int .i64 0]) ∧ ms.length ≤ c' ∧ c' ≤ maxLen ∧ RdM w' w.heap.size w'.heap.size A' ms ∧ Fr NoB w w' := by
  obtain ⟨e1, e2⟩ := Prod.mk.injEq _ _ _ _ ▸ hg
  obtain ⟨e2, e3⟩ := Prod.mk.injEq _ _ _ _ ▸ e2
  have hrc := rCount_range (rInt (some b)).2 7 (by omega)
  obtain ⟨n, hn⟩ : ∃ n : Nat, (rCount (rInt (some b)).2 7).1 = (n : Int) := ⟨((rCount (rInt (some b)).2 7).1).toNat, by omega⟩
  obtain ⟨s1, hs1⟩ : ∃ s1, (rCount (rInt (some b)).2 7).2 = s1 := ⟨_, rfl⟩
  obtain ⟨s0, hs0⟩ : ∃ s0, (rInt (some b)).2 = s0 := ⟨_, rfl⟩
  have hn7 : (n : Int) ≤ 7 := by omega
  have hm : (rdMems n s1).1 = ms := by rw [← e2]; simp only [getR] at *; rw [hn, hs1]; rfl
  have hst : (rdMems n s1).2 = some [] := by rw [← e3]; simp only [getR] at *; rw [hn, hs1]; rfl
  have hv : (rInt (some b)).1 = v := e1
  rw [hs0] at hn hs1
  have HR := Lib.hid h
  have hI := fun W lo p (r : Rdr W lo p (some b)) => rInt_calls lo p (some b) W r
  rw [hv, hs0] at hI
  have HI := Lib.hid hI
  have hC := fun W lo p (r : Rdr W lo p s0) => rCount_calls lo p s0 7 W r
  rw [hn, hs1] at hC
  have HC := Lib.hid hC
  have HM := Lib.hid hm
  have HST := Lib.hid hst
  have HCK := Lib.hid hck
  clear h hI hC hm hst hck hrc hs0 hs1 hn hv e1 e2 e3 hg
  obtain ⟨i0, hi0, hz0, hz1, hz2⟩ := info_parts info_mem
  go_enter Tryd.func91, Tryd.ntmps91
  go_wp2_with (fail)
  have F0 := Lib.hid ((Fr.refl NoB w).alloc (.cells #[.int .i64 0, .slice none 0 0] 40))
  have HRV := Lib.hid (heap_alloc_new w (.cells #[.int .i64 0, .slice none 0 0] 40))
  generalize w.alloc (.cells #[.int .i64 0, .slice none 0 0] 40) = wb at F0 HRV ⊢
  refine (rNew_calls A b c lo hi wb (HR.out.fr F0.out hh (fun _ _ _ x => x)) hl).mono ?_
  rintro e w1 ⟨p, rfl, q1, q2, q3, -⟩
  have Q1 := Lib.hid q1
  have Q2 := Lib.hid q2
  have Q3 := Lib.hid q3
  clear q1 q2 q3 HR
  go_wp2_with (fail)
  refine (HI.out _ _ _ Q2.out).mono ?_
  rintro e w2 ⟨rfl, a2, f2, -⟩
  have HA2 := Lib.hid a2
  have F2 := Lib.hid (Q3.out.upE f2 (fun k hk => by simp only [OneB] at hk; have := Q1.out; omega))
  clear a2 f2 Q2 HI
  go_wp2_with (fail)
  have t3 : GeW wb (w2.alloc (.cells #[.int .i64 v, .slice none 0 0] 40)) wb.heap.size p w2.heap.size v (.slice none 0 0) [] s0 :=
    ⟨HA2.out.fr ((Fr.refl NoB w2).alloc _) (fun _ _ _ x => x) Q1.out, F2.out.alloc _, Nat.le_refl _, Q1.out, HA2.out.lt, heap_alloc_new w2 _, World.ownsRow_nil _ _ _ _⟩
  generalize w2.alloc (.cells #[.int .i64 v, .slice none 0 0] 40) = w3 at t3 ⊢
  generalize w2.heap.size = E at t3 ⊢
  refine (HC.out _ _ _ t3.a).mono ?_
  rintro e w4 ⟨rfl, a4, f4, -⟩
  have T4 := Lib.hid (t3.read a4 f4)
  clear t3 a4 f4 HC HA2 F2 e2 Q1 Q3
  go_wp2
  go_loopw [16] (fun i wr => ∃ (k : Nat) (V : Value), k ≤ n ∧ i = .int .i64 (k : Int) ∧ GeW wb wr wb.heap.size p E v V (rdMems k s1).1 (rdMems k s1).2) (fun i _ => n - (intOf i).toNat)
  case atStart => exact ⟨0, _, Nat.zero_le _, rfl, T4.out⟩
  case round =>
    obtain ⟨k, V, hk, rfl, ht⟩ := hrel
    have TK := Lib.hid ht
    clear ht T4
    by_cases hlt : k < n
    · have hki : (k : Int) < (n : Int) := by omega
      have hll := rdMems_len k s1
      have hstep : rdMems (k + 1) s1 = ((rdMems k s1).1 ++ [(rdMem (rdMems k s1).2).1], (rdMem (rdMems k s1).2).2) := rfl
      generalize (rdMems k s1).1 = l at TK hll hstep
      generalize (rdMems k s1).2 = st at TK hstep
      obtain ⟨x1, t1, g1⟩ : ∃ x t, rCount st 7 = (x, t) := ⟨_, _, rfl⟩
      obtain ⟨x2, t2, g2⟩ : ∃ x t, rCount t1 2 = (x, t) := ⟨_, _, rfl⟩
      obtain ⟨x3, t3, g3⟩ : ∃ x t, rCount t2 1000 = (x, t) := ⟨_, _, rfl⟩
      obtain ⟨x4, t4, g4⟩ : ∃ x t, rCount t3 7 = (x, t) := ⟨_, _, rfl⟩
      have hmem : rdMem st = ((x1, x2, x3, x4), t4) := by simp [rdMem, g1, g2, g3, g4]
      rw [hmem] at hstep
      have r2 := rCount_range t1 2 (by omega)
      rw [g2] at r2
      simp only at r2
      have hx2 : x2 % 256 = x2 := by omega
      have hC1 := fun W (r : Rdr W wb.heap.size p st) => rCount_calls wb.heap.size p st 7 W r
      have hC2 := fun W (r : Rdr W wb.heap.size p t1) => rCount_calls wb.heap.size p t1 2 W r
      have hC3 := fun W (r : Rdr W wb.heap.size p t2) => rCount_calls wb.heap.size p t2 1000 W r
      have hC4 := fun W (r : Rdr W wb.heap.size p t3) => rCount_calls wb.heap.size p t3 7 W r
      rw [g1] at hC1
      rw [g2] at hC2
      rw [g3] at hC3
      rw [g4] at hC4
      have HC1 := Lib.hid hC1
      have HC2 := Lib.hid hC2
      have HC3 := Lib.hid hC3
      have HC4 := Lib.hid hC4
      have HSTEP := Lib.hid hstep
      have HLL := Lib.hid hll
      clear hC1 hC2 hC3 hC4 hstep hmem g1 g2 g3 g4 r2 hll
      go_wp2_with (fail)
      refine (HC1.out _ TK.out.a).mono ?_
      rintro e w5 ⟨rfl, a5, f5, -⟩
      have T5 := Lib.hid (TK.out.read a5 f5)
      have HBV := Lib.hid (fun g (hg : V.ownBlock = some g) => Nat.ne_of_lt (T5.out.own.lt g hg).2)
      have HEK := Lib.hid (Lib.lt_of_heap T5.out.bx)
      clear a5 f5 TK HC1
      go_wp2_with (fail)
      have hmk := heap_alloc_new w5 (.cells #[.int .i64 x1, .int .u8 0, .int .i64 0, .int .i64 0] 106)
      have T5b := Lib.hid (T5.out.keep ((Fr.refl NoB w5).alloc (.cells #[.int .i64 x1, .int .u8 0, .int .i64 0, .int .i64 0] 106)))
      generalize w5.alloc (.cells #[.int .i64 x1, .int .u8 0, .int .i64 0, .int .i64 0] 106) = w5b at hmk T5b ⊢
      generalize w5.heap.size = K at hmk HBV HEK ⊢
      refine (HC2.out _ T5b.out.a).mono ?_
      rintro e w6 ⟨rfl, a6, f6, -⟩
      have T6 := Lib.hid (T5b.out.read a6 f6)
      have hKp : ¬ OneB p K := by have := HEK.out; have := T5b.out.pE; simp only [OneB]; omega
      have hm6 := f6.at_ hmk hKp
      have HM6 := Lib.hid hm6
      have y1 := (cells_of hm6 1).1
      have z1 := (cells_of hm6 1).2
      simp only [List.getElem?_toArray, List.getElem?_cons_zero, List.getElem?_cons_succ] at y1
      clear a6 f6 hmk T5b HC2 hm6
      go_wp2_with (fail)
      have T6b := Lib.hid (T6.out.set K 1 HEK.out HBV.out (.int .u8 x2))
      have hm6b : (w6.setCell ⟨K, 1, none⟩ (.int .u8 x2)).heap[K]? = some (.cells #[.int .i64 x1, .int .u8 x2, .int .i64 0, .int .i64 0] 106 (0, 0)) := by rw [heap_set HM6.out]; rfl
      generalize w6.setCell ⟨K, 1, none⟩ (.int .u8 x2) = w6b at hm6b T6b ⊢
      clear T6 HM6 y1 z1
      refine (HC3.out _ T6b.out.a).mono ?_
      rintro e w7 ⟨rfl, a7, f7, -⟩
      have T7 := Lib.hid (T6b.out.read a7 f7)
      have hm7 := f7.at_ hm6b hKp
      clear a7 f7 T6b hm6b HC3
      go_wp2_with (fail)
      refine (HC4.out _ T7.out.a).mono ?_
      rintro e w8 ⟨rfl, a8, f8, -⟩
      have T8 := Lib.hid (T7.out.read a8 f8)
      have hm8 := f8.at_ hm7 hKp
      clear a8 f8 T7 hm7 HC4
      obtain ⟨AV, cV, hVe, _, _⟩ := own_form4 T8.out.own
      subst hVe
      have y2 := (cells_of hm8 2).1
      have z2 := (cells_of hm8 2).2
      have y3 := (cells_of hm8 3).1
      have z3 := (cells_of hm8 3).2
      have T9 := Lib.hid ((T8.out.set K 2 HEK.out HBV.out (.int .i64 x3)).set K 3 HEK.out HBV.out (.int .i64 x4))
      have hm9 : ((w8.setCell ⟨K, 2, none⟩ (.int .i64 x3)).setCell ⟨K, 3, none⟩ (.int .i64 x4)).heap[K]? = some (.cells #[.int .i64 x1, .int .u8 x2, .int .i64 x3, .int .i64 x4] 106 (0, 0)) := by rw [heap_set (heap_set hm8 _) _]; rfl
      have u0 := (cells_of hm9 0).1
      have u1 := (cells_of hm9 1).1
      have u2 := (cells_of hm9 2).1
      have u3 := (cells_of hm9 3).1
      have uE := (cells_of T9.out.bx 1).1
      simp only [List.getElem?_toArray, List.getElem?_cons_zero, List.getElem?_cons_succ] at y2 y3 u0 u1 u2 u3 uE
      have hsrc : ∀ (t : TypeId) (j : Nat) (u : Value), (mv [(x1, x2, x3, x4)])[j]? = some u → (((w8.setCell ⟨K, 2, none⟩ (.int .i64 x3)).setCell ⟨K, 3, none⟩ (.int .i64 x4)).alloc (.cells #[.int .i64 x1, .int .u8 x2, .int .i64 x3, .int .i64 x4] t)).cell? ((⟨w8.heap.size, 0, none⟩ : Addr).add j) = some u := fun t j u hj => by
        obtain ⟨ad, h1, h2⟩ := src_block ((w8.setCell ⟨K, 2, none⟩ (.int .i64 x3)).setCell ⟨K, 3, none⟩ (.int .i64 x4)) #[.int .i64 x1, .int .u8 x2, .int .i64 x3, .int .i64 x4] t (mv [(x1, x2, x3, x4)]) rfl
        have hsz : ((w8.setCell ⟨K, 2, none⟩ (.int .i64 x3)).setCell ⟨K, 3, none⟩ (.int .i64 x4)).heap.size = w8.heap.size := by simp [World.setCell]
        rw [hsz] at h1
        cases h1
        exact h2 j u hj
      have HSRC := Lib.hid hsrc
      clear hm8 hm9 T8 hsrc
      go_wp2_with (at_builtin; go_loud (refine wpList_append_src _ rfl _ _ 26 rfl (E + 1) 106 i0 (.agg #[.int .i64 0, .int .u8 0, .int .i64 0, .int .i64 0]) 4 32 Tryd.underlying26 hi0 hz0 hz1 hz2 rfl (by decide) (.slice AV l.length cV) l.length (mv l) rfl (T9.out.own.alloc _) _ 1 _ (mv [(x1, x2, x3, x4)]) rfl rfl (fun _ => ⟨_, rfl, HSRC.out _⟩) (mv_one _) (by have := HLL.out; unfold maxLen; omega) (by have := HLL.out; omega) (by have := Lib.lt_of_heap T9.out.bx; simp at this ⊢; omega) ?_))
      intro v' wA hA
      obtain ⟨A2, c2, hv2, _, _⟩ := own_form4 hA.own
      subst hv2
      have T10 := Lib.hid (T9.out.push hA)
      have hold := T9.out.old hA
      have q1 := (cells_of hold 1).1
      have q2 := (cells_of hold 1).2
      simp only [List.getElem?_toArray, List.getElem?_cons_zero, List.getElem?_cons_succ] at q1
      clear hA hold T9 HSRC u0 u1 u2 u3 uE y2 y3 z2 z3
      go_wp2
      go_roundw
      case rel => exact ⟨k + 1, _, by omega, by go_num, by rw [HSTEP.out]; exact T10.out⟩
      case measure => simp [intOf]; omega
    · obtain rfl : k = n := by omega
      have ht := TK.out
      rw [HM.out, HST.out] at ht
      obtain ⟨AV, cV, hVe, hl1, hl2⟩ := own_form4 ht.own
      subst hVe
      have TE := Lib.hid ht
      have hrdm := own_rdm ht.own
      have hml : ms.length = k := by rw [← HM.out, rdMems_len]
      have hwh := rWhole_calls wb.heap.size p _ wr ht.a
      rw [show rWhole (some []) = true from rfl] at hwh
      have hcc := check_calls v AV ms cV (E + 1) wr.heap.size wr hrdm (Nat.le_refl _) (by omega)
      rw [HCK.out] at hcc
      have HWH := Lib.hid hwh
      have HCC := Lib.hid hcc
      have HRD := Lib.hid hrdm
      have b0 := (cells_of ht.bx 0).1
      have b1 := (cells_of ht.bx 1).1
      simp only [List.getElem?_toArray, List.getElem?_cons_zero, List.getElem?_cons_succ] at b0 b1
      clear ht hwh hcc hrdm TK HM HST HCK hlt hk hi0 hz0 hz1 hz2 hml
      go_wp2_with (fail)
      refine HWH.out.mono ?_
      rintro e w5 ⟨rfl, rfl⟩
      go_wp2_with (fail)
      refine HCC.out.mono ?_
      rintro e w9 ⟨rfl, f9⟩
      have T9 := Lib.hid (TE.out.keep f9)
      have hres := T9.out.fr.at_ HRV.out (fun x => x)
      have HRES := Lib.hid hres
      have c0 := (cells_of T9.out.bx 0).1
      have c1 := (cells_of T9.out.bx 1).1
      have r0 := (cells_of hres 0).1
      have r1 := (cells_of hres 1).1
      have z0 := (cells_of hres 0).2
      have z1 := (cells_of hres 1).2
      simp only [List.getElem?_toArray, List.getElem?_cons_zero, List.getElem?_cons_succ] at c0 c1 r0 r1
      have F9 := Lib.hid f9
      have HwE : Hid (w.heap.size < E) := by
        have h1 := TE.out.lo1
        have h2 := TE.out.lo2
        have h3 := TE.out.pE
        have h4 := Lib.lt_of_heap HRV.out
        show w.heap.size < E
        omega
      clear f9 hres HCC HWH
      go_wp2
      refine bodyPost_ret (v := .tuple #[.agg #[.int .i64 v, .slice AV ms.length cV], .int .i64 0]) (results_row_tmp (fn := Tryd.f91) (p := 2) (u := 3) (ty := 40) (by kernel_rfl) _ _ w.heap.size 40 _ _ _ rfl (two_set HRES.out) Tryd.underlying40 rfl (by kernel_rfl)) rfl ⟨AV, cV, rfl, hl1, hl2, ?_, ?_⟩
      · have hf : Fr (OneB w.heap.size) wr ((w9.setCell ⟨w.heap.size, 0, none⟩ (.int .i64 v)).setCell ⟨w.heap.size, 1, none⟩ (.slice AV ms.length cV)) := ((F9.out.no (M := OneB w.heap.size)).setCell (p := ⟨w.heap.size, 0, none⟩) (fun _ => rfl) _).setCell (p := ⟨w.heap.size, 1, none⟩) (fun _ => rfl) _
        exact (HRD.out.fr hf (Nat.le_refl _) (fun k hk _ hx => by simp only [OneB] at hx; have := HwE.out; omega)).wide (by have := HwE.out; omega) hf.size
      · exact (((F0.out.then TE.out.fr).then F9.out).setCell (p := ⟨w.heap.size, 0, none⟩) (fun k => absurd k (by simp)) _).setCell (p := ⟨w.heap.size, 1, none⟩) (fun k => absurd k (by simp)) _

end Go.Proofs.YtlckgkpgllhpbaaDoor
