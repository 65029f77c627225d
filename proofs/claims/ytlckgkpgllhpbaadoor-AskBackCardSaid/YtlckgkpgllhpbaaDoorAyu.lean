/-
  Ayu: Ayx, Ayp, Ayq, Ayu.
-/
import Derived.Test.YtlckgkpgllhpbaaDoorAyt
import Derived.Laws.Rows
/- Ayx -/
namespace Go.Proofs.YtlckgkpgllhpbaaDoor
open Go.RowKit
theorem info_int64 : (Tryd.prog.info? 2).map (·.size) = some 1 := by kernel_rfl
theorem run_index10 (cs : Array Value) (j : Nat) (n : Int) (w : World) (hj : j < 10) (hv : cs[j]? = some (.int .i64 n)) : (Instr.index 116 (.agg cs) (.int .i64 (j : Int))).run Tryd.prog w = .ok (.int .i64 n) w := by
  have h1 : (j : Int) < 10 := by omega
  simp [Instr.index, run_underlying Tryd.underlying116, asIntOf, hj, part, isAgg, run_underlying Tryd.underlying2, hv, go_sem]
set_option maxRecDepth 8000 in
theorem wpList_index10 {ops : Array Oper} {rest : List Oper} {o : Oper} {a : Act} {w : World} {Q : Exit → Act → World → Prop} (hgd : o.guard = none) (x ix : Operand) (ho : o.op = .index 116 x ix) (cs : Array Value) (j : Nat) (hx : a.eval x = .agg cs) (hi : a.eval ix = .int .i64 (j : Int)) (hj : j < 10) (n : Int) (hv : cs[j]? = some (.int .i64 n)) (h : wpList Tryd.prog ops Q rest (a.put o.dst (.int .i64 n)) w) : wpList Tryd.prog ops Q (o :: rest) a w :=
  wpList_plain hgd fun _ hK => by
    unfold Oper.wp execOp
    simp only [ho, hx, hi]
    rw [Sem.run_bind, run_index10 cs j n w hj hv]
    simp only [Result.andThen_ok, Sem.run_pure]
    exact hK _ _ h
end Go.Proofs.YtlckgkpgllhpbaaDoor

/- Ayp -/
namespace Go.Proofs.YtlckgkpgllhpbaaDoor
open Go.RowKit

/-- A walk of put: the writer, and the reply in its box. -/
structure BY (w0 w : World) (pw : Nat) (G0 G : Option Nat) (L : List UInt8) (b : Nat) (cs : Array Value) : Prop where
  a : Wtr w pw G L
  fr : Fr (WF pw G0) w0 w
  g : ∀ k, WF pw G k → WF pw G0 k ∨ w0.heap.size ≤ k
  bx : w.heap[b]? = some (.cells cs 43 (0, 0))
  nb : ¬ WF pw G b
theorem BY.next {w0 w w1 : World} {pw b : Nat} {G0 G G1 : Option Nat} {L L' : List UInt8} {cs : Array Value} (h : BY w0 w pw G0 G L b cs) (a : Wtr w1 pw G1 L') (f : Fr (WF pw G) w w1) (g : ∀ k, WF pw G1 k → WF pw G k ∨ w.heap.size ≤ k) : BY w0 w1 pw G0 G1 L' b cs :=
  ⟨a, h.fr.trans f fun k hk hx => (h.g k hx).elim id (fun hx => absurd hx (by omega)), fun k hk => (g k hk).elim (h.g k) (fun hx => .inr (Nat.le_trans h.fr.size hx)), f.at_ h.bx h.nb, fun hx => (g b hx).elim h.nb (fun hx => by have := Lib.lt_of_heap h.bx; omega)⟩
theorem BY.put {w0 w : World} {pw b : Nat} {G0 G : Option Nat} {L : List UInt8} {cs : Array Value} (h : BY w0 w pw G0 G L b cs) : Put pw G0 L w0 w := ⟨G, h.a, h.fr, h.g⟩
theorem BY.start {w : World} {pw : Nat} {G : Option Nat} {L : List UInt8} (h : Wtr w pw G L) (hp : ∀ k, WF pw G k → k < w.heap.size) (cs : Array Value) : BY w (w.alloc (.cells cs 43)) pw G G L w.heap.size cs :=
  ⟨h.fr ((Fr.refl NoB w).alloc _) (fun _ _ x => x), (Fr.refl _ w).alloc _, fun k hk => .inl hk, heap_alloc_new w _, fun hx => by have := hp _ hx; omega⟩
theorem BY.cell {w0 w : World} {pw b : Nat} {G0 G : Option Nat} {L : List UInt8} {cs : Array Value} (h : BY w0 w pw G0 G L b cs) (i : Nat) (v : Value) (hv : cs[i]? = some v) : w.cell? ⟨b, i, none⟩ = some v := (cells_of h.bx i).1.trans hv
theorem BY.keep {w0 w w1 : World} {pw b : Nat} {G0 G : Option Nat} {L : List UInt8} {cs : Array Value} (h : BY w0 w pw G0 G L b cs) (f : Fr NoB w w1) : BY w0 w1 pw G0 G L b cs :=
  ⟨h.a.fr f (fun _ _ x => x), h.fr.trans f fun _ _ x => x.elim, h.g, f.at_ h.bx (fun x => x), h.nb⟩
theorem BY.cast {w0 w : World} {pw b : Nat} {G0 G : Option Nat} {L L' : List UInt8} {cs : Array Value} (h : BY w0 w pw G0 G L b cs) (e : L = L') : BY w0 w pw G0 G L' b cs := e ▸ h
theorem BY.far {w0 w : World} {pw b : Nat} {G0 G : Option Nat} {L : List UInt8} {cs : Array Value} (h : BY w0 w pw G0 G L b cs) (k : Nat) (hk : w.heap.size ≤ k) : ¬ WF pw G k := fun hx => by have := h.a.lt hx; omega
/-- put of a part, as it is wanted. -/
def PutFlat (pw lo hi K : Nat) (q : Fy × Nat) : Prop := ∀ (pl : Py) (G : Option Nat) (L : List UInt8) (w' : World), Wtr w' pw G L → L.length ≤ K → Rd w' lo hi pl.A q.1.data → RdT w' lo hi pl.L q.1.ls → RdM w' lo hi pl.B q.1.c.2 → hi ≤ w'.heap.size → (∀ k, lo ≤ k → k < hi → ¬ WF pw G k) → Calls Tryd.prog 39 #[.pointer (some ⟨pw, 0, none⟩), yval q.1 pl q.2] w' fun e w'' => e = .returned (.tuple #[]) ∧ Put pw G (L ++ (bodyY q.1 ++ intB 0)) w' w''
theorem intsB_snoc {l : List Int} {k : Nat} {n : Int} (h : l[k]? = some n) : intsB (l.take (k + 1)) = intsB (l.take k) ++ intB n := by
  have hk : k < l.length := (List.getElem?_eq_some_iff.1 h).1
  rw [List.take_add_one, h, intsB_append]; simp [intsB]
theorem textsB_snoc {l : List (List UInt8)} {k : Nat} {n : List UInt8} (h : l[k]? = some n) : textsB (l.take (k + 1)) = textsB (l.take k) ++ textB n := by
  rw [List.take_add_one, h, textsB_append]; simp [textsB]
theorem partsY_snoc {l : List (Fy × Nat)} {k : Nat} {q : Fy × Nat} (h : l[k]? = some q) : partsY (l.take (k + 1)) = partsY (l.take k) ++ (bodyY q.1 ++ intB 0) := by
  rw [List.take_add_one, h, partsY_append]; simp [partsY]
set_option maxHeartbeats 12800000 in
set_option maxRecDepth 8000 in
theorem yput_core (k h0 h1 h2 h3 h4 : Int) (path : List UInt8) (A : Option Addr) (data : List UInt8) (dc : Nat) (n0 n1 n2 n3 n4 n5 n6 n7 n8 n9 : Int) (L : Option Addr) (ls : List (List UInt8)) (lc : Nat) (v : Int) (B : Option Addr) (ms : List Mem) (bd : Nat) (P : Option Addr) (l : List (Fy × Nat)) (pe pw : Nat) (G : Option Nat) (L0 : List UInt8) (lo hi : Nat) (w : World)
    (hok : Fy.Ok ⟨k, [h0, h1, h2, h3, h4], path, data, [n0, n1, n2, n3, n4, n5, n6, n7, n8, n9], ls, (v, ms)⟩) (hans : AnsY ⟨k, [h0, h1, h2, h3, h4], path, data, [n0, n1, n2, n3, n4, n5, n6, n7, n8, n9], ls, (v, ms)⟩ l.length) (hw : Wtr w pw G L0) (K0 : Nat) (hK0 : K0 ≤ 1000000000) (hlim : L0.length ≤ K0) (hD : Rd w lo hi A data) (hT : RdT w lo hi L ls) (hM : RdM w lo hi B ms) (hP : RdPy w lo hi P l) (hh : hi ≤ w.heap.size) (hpn : ∀ k, lo ≤ k → k < hi → ¬ WF pw G k) (hps : ∀ q ∈ l, PartY q ∧ q.1.Ok ∧ PutFlat pw lo hi (K0 + 1300000) q) :
    Calls Tryd.prog 39 #[.pointer (some ⟨pw, 0, none⟩), .agg #[.int .u8 k, .int .i64 h0, .int .i64 h1, .int .i64 h2, .int .i64 h3, .int .i64 h4, .string ⟨path.toArray⟩, .slice A data.length dc, .int .i64 n0, .int .i64 n1, .int .i64 n2, .int .i64 n3, .int .i64 n4, .int .i64 n5, .int .i64 n6, .int .i64 n7, .int .i64 n8, .int .i64 n9, .slice L ls.length lc, .int .i64 v, .slice B ms.length bd, .slice P l.length pe]] w fun e w' => e = .returned (.tuple #[]) ∧ Put pw G (L0 ++ replyB ⟨k, [h0, h1, h2, h3, h4], path, data, [n0, n1, n2, n3, n4, n5, n6, n7, n8, n9], ls, (v, ms)⟩ l) w w' := by
  have HK : Hid (0 ≤ k ∧ k ≤ 255) := Lib.hid hok.k
  have HHD : Hid (∀ n ∈ [h0, h1, h2, h3, h4], OkI n) := Lib.hid hok.hd
  have HST : Hid (∀ n ∈ [n0, n1, n2, n3, n4, n5, n6, n7, n8, n9], OkI n) := Lib.hid hok.st
  have HV : Hid (OkI v) := Lib.hid hok.c
  have HML : Hid (ms.length ≤ 4398046510976) := Lib.hid hok.ms
  obtain ⟨-, -, -, a1, a2, -, a3, a4, a5, a6⟩ := hans
  have A1 : Hid (path.length ≤ 220) := Lib.hid a1
  have A2 : Hid (data.length ≤ 1000) := Lib.hid a2
  have A3 : Hid (ls.length ≤ 500) := Lib.hid a3
  have A4 : Hid (∀ t ∈ ls, t.length ≤ 220) := Lib.hid a4
  have A5 := Lib.hid a5
  have A6 := Lib.hid a6
  have HD := Lib.hid hD
  have HT := Lib.hid hT
  have HM := Lib.hid hM
  have HP := Lib.hid hP
  have HH := Lib.hid hh
  have HPN := Lib.hid hpn
  have HPS := Lib.hid hps
  have HLIM := Lib.hid hlim
  have T0 := Lib.hid (BY.start hw (fun k h => hw.lt h) #[.int .u8 k, .int .i64 h0, .int .i64 h1, .int .i64 h2, .int .i64 h3, .int .i64 h4, .string ⟨path.toArray⟩, .slice A data.length dc, .int .i64 n0, .int .i64 n1, .int .i64 n2, .int .i64 n3, .int .i64 n4, .int .i64 n5, .int .i64 n6, .int .i64 n7, .int .i64 n8, .int .i64 n9, .slice L ls.length lc, .int .i64 v, .slice B ms.length bd, .slice P l.length pe])
  clear hok a1 a2 a3 a4 a5 a6 hD hT hM hP hpn hps hlim hw hh
  go_enter Tryd.func39, Tryd.ntmps39
  go_wp2_with (fail)
  refine (wByteI pw G L0 k _ HK.out T0.out.a (by have := HLIM.out; omega)).mono ?_
  rintro e w1 ⟨rfl, G1, a, f, g⟩
  have T1 := Lib.hid (T0.out.next a f g)
  clear a f g T0
  have d1 := T1.out.cell 1 _ rfl
  have d2 := T1.out.cell 2 _ rfl
  have d3 := T1.out.cell 3 _ rfl
  have d4 := T1.out.cell 4 _ rfl
  have d5 := T1.out.cell 5 _ rfl
  have T1k := Lib.hid (T1.out.keep ((Fr.refl NoB _).alloc (.cells #[.int .i64 h0, .int .i64 h1, .int .i64 h2, .int .i64 h3, .int .i64 h4] 3)))
  have HR1 := Lib.hid (rdi_new w1 [h0, h1, h2, h3, h4] 3)
  go_wp2_with (fail)
  refine (ints_calls pw G1 _ _ [h0, h1, h2, h3, h4] 5 _ _ _ T1k.out.a (by have := HLIM.out; simp only [List.length_append, List.length_cons, List.length_nil]; omega) HR1.out (by simp) (fun k h1 h2 => T1.out.far k h1) HHD.out).mono ?_
  rintro e w2 ⟨rfl, G2, a, f, g⟩
  have T2 := Lib.hid (T1k.out.next a f g)
  clear a f g T1 T1k HR1 d1 d2 d3 d4 d5
  have d6 := T2.out.cell 6 _ rfl
  go_wp2_with (fail)
  have hl2 : (L0 ++ [kindB k] ++ intsB [h0, h1, h2, h3, h4]).length ≤ K0 + 60 := by
    have p1 := HLIM.out
    have p2 := intsB_len [h0, h1, h2, h3, h4]
    simp only [List.length_append, List.length_cons, List.length_nil] at p2 ⊢
    omega
  obtain ⟨L2, hL2⟩ : ∃ x, L0 ++ [kindB k] ++ intsB [h0, h1, h2, h3, h4] = x := ⟨_, rfl⟩
  rw [hL2] at T2 hl2
  have HL2 := Lib.hid hL2
  have HB2 := Lib.hid hl2
  clear hL2 hl2
  refine (wText pw G2 L2 ⟨path.toArray⟩ _ T2.out.a (by have h1 := HB2.out; have h2 := A1.out; rw [mk_size]; omega)).mono ?_
  rintro e w3 ⟨rfl, G3, a, f, g⟩
  have T3 := Lib.hid (T2.out.next a f g)
  clear a f g T2 d6
  have d7 := T3.out.cell 7 _ rfl
  go_wp2_with (fail)
  have hl3 := textB_len path
  refine (wBytes pw G3 _ data A dc lo hi _ T3.out.a (by have h1 := HB2.out; have h2 := A1.out; have h3 := A2.out; simp only [List.length_append]; omega) (HD.out.fr T3.out.fr HH.out HPN.out) (Nat.le_trans HH.out T3.out.fr.size) (fun k h1 h2 h3 => (T3.out.g k h3).elim (HPN.out k h1 h2) (fun h => by have := HH.out; omega))).mono ?_
  rintro e w4 ⟨rfl, G4, a, f, g⟩
  have T4 := Lib.hid (T3.out.next a f g)
  clear a f g T3 d7
  have hl4 : (L2 ++ textB path ++ textB data).length ≤ K0 + 1310 := by
    have h1 := HB2.out
    have h2 := A1.out
    have h3 := A2.out
    have h4 := textB_len data
    simp only [List.length_append]
    omega
  obtain ⟨L4, hL4⟩ : ∃ x, L2 ++ textB path ++ textB data = x := ⟨_, rfl⟩
  have T4' : Hid (BY w w4 pw G G4 L4 w.heap.size _) := hL4 ▸ T4
  rw [hL4] at hl4
  have HL4 := Lib.hid hL4
  have HB4 := Lib.hid hl4
  clear hL4 hl4 hl3 T4
  go_wp2_with (fail)
  refine (ystat0 w.heap.size n0 n1 n2 n3 n4 n5 n6 n7 n8 n9 _ (Lib.lt_of_heap T4'.out.bx) (cells_of T4'.out.bx 8).1 (cells_of T4'.out.bx 9).1 (cells_of T4'.out.bx 10).1 (cells_of T4'.out.bx 11).1 (cells_of T4'.out.bx 12).1 (cells_of T4'.out.bx 13).1 (cells_of T4'.out.bx 14).1 (cells_of T4'.out.bx 15).1 (cells_of T4'.out.bx 16).1 (cells_of T4'.out.bx 17).1).mono ?_
  rintro e w5 ⟨rfl, f5⟩
  have T5 := Lib.hid (T4'.out.keep f5)
  clear f5 T4'
  simp only [yints]
  go_wp2_with (fail)
  go_loopw [38] (fun i W => ∃ (j : Nat) (Gk : Option Nat), j ≤ 10 ∧ i = .int .i64 (j : Int) ∧ BY w W pw G Gk (L4 ++ intsB ([n0, n1, n2, n3, n4, n5, n6, n7, n8, n9].take j)) w.heap.size #[.int .u8 k, .int .i64 h0, .int .i64 h1, .int .i64 h2, .int .i64 h3, .int .i64 h4, .string ⟨path.toArray⟩, .slice A data.length dc, .int .i64 n0, .int .i64 n1, .int .i64 n2, .int .i64 n3, .int .i64 n4, .int .i64 n5, .int .i64 n6, .int .i64 n7, .int .i64 n8, .int .i64 n9, .slice L ls.length lc, .int .i64 v, .slice B ms.length bd, .slice P l.length pe]) (fun i _ => 10 - (intOf i).toNat)
  case atStart => exact ⟨0, G4, by omega, rfl, T5.out.cast (by simp [intsB])⟩
  case round =>
    obtain ⟨j, Gj, hj, rfl, ht⟩ := hrel
    have T := Lib.hid ht
    clear ht T5
    have hlj : (L4 ++ intsB ([n0, n1, n2, n3, n4, n5, n6, n7, n8, n9].take j)).length ≤ K0 + 1410 := by
      have h1 := HB4.out
      have h2 := intsB_len ([n0, n1, n2, n3, n4, n5, n6, n7, n8, n9].take j)
      rw [List.length_append]
      rw [List.length_take] at h2
      simp only [List.length_cons, List.length_nil] at h2
      omega
    have HLJ := Lib.hid hlj
    clear hlj
    by_cases hj10 : j = 10
    · subst hj10
      have TE' := T.out
      rw [show [n0, n1, n2, n3, n4, n5, n6, n7, n8, n9].take 10 = [n0, n1, n2, n3, n4, n5, n6, n7, n8, n9] from rfl] at TE'
      have T6 := Lib.hid TE'
      clear TE' T
      have hl6 : (L4 ++ intsB [n0, n1, n2, n3, n4, n5, n6, n7, n8, n9]).length ≤ K0 + 1410 := HLJ.out
      obtain ⟨L6, hL6⟩ : ∃ x, L4 ++ intsB [n0, n1, n2, n3, n4, n5, n6, n7, n8, n9] = x := ⟨_, rfl⟩
      have T6' : Hid (BY w wr pw G Gj L6 w.heap.size _) := hL6 ▸ T6
      rw [hL6] at hl6
      have HL6 := Lib.hid hL6
      have HB6 := Lib.hid hl6
      clear hL6 hl6 T6 HLJ
      have d18 := T6'.out.cell 18 _ rfl
      have T6k := Lib.hid (T6'.out.keep ((Fr.refl NoB _).alloc (.cells #[.int .i64 (ls.length : Int)] 3)))
      have HR6 := Lib.hid (rdi_new wr [(ls.length : Int)] 3)
      go_wp2_with (fail)
      refine (ints_calls pw Gj L6 _ [(ls.length : Int)] 1 _ _ _ T6k.out.a (by have := HB6.out; simp only [List.length_cons, List.length_nil]; omega) HR6.out (by simp) (fun k h1 h2 => T6'.out.far k h1) (fun z hz => by rw [List.mem_singleton.1 hz]; have := A3.out; unfold OkI; omega)).mono ?_
      rintro e w7 ⟨rfl, G7, a, f, g⟩
      have T7 := Lib.hid (T6k.out.next a f g)
      clear a f g T6k T6' HR6 d18
      have hl7 : (L6 ++ intsB [(ls.length : Int)]).length ≤ K0 + 1430 := by
        have p1 := HB6.out
        have p2 := intsB_len [(ls.length : Int)]
        simp only [List.length_append, List.length_cons, List.length_nil] at p2 ⊢
        omega
      obtain ⟨L7, hL7⟩ : ∃ x, L6 ++ intsB [(ls.length : Int)] = x := ⟨_, rfl⟩
      rw [hL7] at T7 hl7
      have HL7 := Lib.hid hL7
      have HB7 := Lib.hid hl7
      clear hL7 hl7
      have d18 := T7.out.cell 18 _ rfl
      go_wp2_with (fail)
      clear d18
      go_loopw [54] (fun i W => ∃ (j : Nat) (Gk : Option Nat), j ≤ ls.length ∧ i = .int .i64 (j : Int) ∧ BY w W pw G Gk (L7 ++ textsB (ls.take j)) w.heap.size #[.int .u8 k, .int .i64 h0, .int .i64 h1, .int .i64 h2, .int .i64 h3, .int .i64 h4, .string ⟨path.toArray⟩, .slice A data.length dc, .int .i64 n0, .int .i64 n1, .int .i64 n2, .int .i64 n3, .int .i64 n4, .int .i64 n5, .int .i64 n6, .int .i64 n7, .int .i64 n8, .int .i64 n9, .slice L ls.length lc, .int .i64 v, .slice B ms.length bd, .slice P l.length pe]) (fun i _ => ls.length - (intOf i).toNat)
      case atStart => exact ⟨0, G7, by omega, rfl, T7.out.cast (by simp [textsB])⟩
      case round =>
        obtain ⟨j, Gq, hj2, rfl, ht⟩ := hrel
        have T := Lib.hid ht
        clear ht T7
        have hlj : (L7 ++ textsB (ls.take j)).length ≤ K0 + 116430 := by
          have p1 := HB7.out
          have p2 := textsB_len (l := ls.take j) (n := 220) (fun t ht => A4.out t (List.mem_of_mem_take ht))
          have p3 := A3.out
          rw [List.length_append]
          rw [List.length_take] at p2
          omega
        have HLJ := Lib.hid hlj
        clear hlj
        by_cases hlt : j < ls.length
        · have q3 : (ls.length : Int) ≤ 500 := by have := A3.out; omega
          have hki : (j : Int) < (ls.length : Int) := by omega
          have hk0 : (0 : Int) ≤ (j : Int) := by omega
          obtain ⟨b, o, rfl, hb1, hb2, h4⟩ := HT.out (by omega)
          have hc := (T.out.fr.cell (p := ⟨b, o + j, none⟩) (by have := HH.out; simp only; omega) (HPN.out b hb1 hb2)).trans (h4 j ls[j] (List.getElem?_eq_getElem hlt))
          have ht4 := A4.out ls[j] (List.getElem_mem hlt)
          have hsn := textsB_snoc (List.getElem?_eq_getElem hlt)
          clear h4
          generalize ls[j] = x at hc ht4 hsn
          have HSN := Lib.hid hsn
          have HT4 := Lib.hid ht4
          clear hsn ht4
          go_wp2_with (fail)
          refine (wText pw Gq _ ⟨x.toArray⟩ _ T.out.a (by have p1 := HLJ.out; have p2 := HT4.out; rw [mk_size]; omega)).mono ?_
          rintro e w8 ⟨rfl, G8, a, f, g⟩
          have T8 := Lib.hid (T.out.next a f g)
          clear a f g T hc
          go_wp2
          go_roundw
          case rel => exact ⟨j + 1, G8, by omega, by go_num, T8.out.cast (by rw [HSN.out, ← List.append_assoc])⟩
          case measure => simp [intOf]; omega
        · obtain rfl : j = ls.length := by omega
          have TE' := T.out
          have hl8 := HLJ.out
          rw [List.take_length] at TE' hl8
          obtain ⟨L8, hL8⟩ : ∃ x, L7 ++ textsB ls = x := ⟨_, rfl⟩
          rw [hL8] at TE' hl8
          have T8 := Lib.hid TE'
          have HL8 := Lib.hid hL8
          have HB8 := Lib.hid hl8
          clear TE' hL8 hl8 T HLJ
          have d19 := T8.out.cell 19 _ rfl
          have d20 := T8.out.cell 20 _ rfl
          go_wp2_with (fail)
          have hcl := confB_len (f := ⟨k, [h0, h1, h2, h3, h4], path, data, [n0, n1, n2, n3, n4, n5, n6, n7, n8, n9], ls, (v, ms)⟩) A5.out
          have HCL := Lib.hid hcl
          clear hcl
          refine (ynone_calls v ms.length B bd _).mono ?_
          rintro e w9 ⟨rfl, f9⟩
          have T9 := Lib.hid (T8.out.keep f9)
          clear f9 T8 d19 d20
          by_cases hz : v = 0 ∧ ms.length = 0
          · rw [decide_eq_true hz]
            have hcz : confB ⟨k, [h0, h1, h2, h3, h4], path, data, [n0, n1, n2, n3, n4, n5, n6, n7, n8, n9], ls, (v, ms)⟩ = [] := by
              unfold confB
              rw [if_pos]
              exact ⟨hz.1, List.length_eq_zero_iff.1 hz.2⟩
            have HCZ := Lib.hid hcz
            clear hz hcz
            go_wp2_with (fail)
            refine (wBytes pw Gq L8 ([] : List UInt8) none 0 0 0 _ T9.out.a (by have p1 := HB8.out; simp only [List.length_nil]; omega) (Rd.nil _ _ _ _) (Nat.zero_le _) (fun k h1 h2 => by omega)).mono ?_
            rintro e w10 ⟨rfl, G10, a, f, g⟩
            have T10 := Lib.hid (T9.out.next a f g)
            clear a f g T9
            obtain ⟨L10, hL10⟩ : ∃ x, L8 ++ textB ([] : List UInt8) = x := ⟨_, rfl⟩
            have hl10 : L10.length ≤ K0 + 1165100 := by
              have p1 := HB8.out
              have p2 := HCL.out
              have p3 := textB_len ([] : List UInt8)
              simp only [List.length_nil] at p3
              rw [← hL10, List.length_append]
              omega
            rw [hL10] at T10
            have HL10 := Lib.hid hL10
            have HB10 := Lib.hid hl10
            clear hL10 hl10
            have d21 := T10.out.cell 21 _ rfl
            have T10k := Lib.hid (T10.out.keep ((Fr.refl NoB _).alloc (.cells #[.int .i64 (l.length : Int)] 3)))
            have HR10 := Lib.hid (rdi_new w10 [(l.length : Int)] 3)
            go_wp2_with (fail)
            refine (ints_calls pw G10 L10 _ [(l.length : Int)] 1 _ _ _ T10k.out.a (by have := HB10.out; simp only [List.length_cons, List.length_nil]; omega) HR10.out (by simp) (fun k h1 h2 => T10.out.far k h1) (fun z hz => by rw [List.mem_singleton.1 hz]; have := A6.out; unfold OkI; omega)).mono ?_
            rintro e w11 ⟨rfl, G11, a, f, g⟩
            have T11 := Lib.hid (T10k.out.next a f g)
            clear a f g T10k T10 HR10 d21
            have d21 := T11.out.cell 21 _ rfl
            go_wp2_with (fail)
            clear d21
            obtain ⟨L11, hL11⟩ : ∃ x, L10 ++ intsB [(l.length : Int)] = x := ⟨_, rfl⟩
            rw [hL11] at T11
            have hl11 : L11.length ≤ K0 + 1165120 := by
              have p1 := HB10.out
              have p2 := intsB_len [(l.length : Int)]
              rw [← hL11]
              simp only [List.length_append, List.length_cons, List.length_nil] at p2 ⊢
              omega
            have HL11 := Lib.hid hL11
            have HB11 := Lib.hid hl11
            clear hL11 hl11
            go_loopw [84] (fun i W => ∃ (j : Nat) (Gk : Option Nat), j ≤ l.length ∧ i = .int .i64 (j : Int) ∧ BY w W pw G Gk (L11 ++ partsY (l.take j)) w.heap.size #[.int .u8 k, .int .i64 h0, .int .i64 h1, .int .i64 h2, .int .i64 h3, .int .i64 h4, .string ⟨path.toArray⟩, .slice A data.length dc, .int .i64 n0, .int .i64 n1, .int .i64 n2, .int .i64 n3, .int .i64 n4, .int .i64 n5, .int .i64 n6, .int .i64 n7, .int .i64 n8, .int .i64 n9, .slice L ls.length lc, .int .i64 v, .slice B ms.length bd, .slice P l.length pe]) (fun i _ => l.length - (intOf i).toNat)
            case atStart => exact ⟨0, G11, by omega, rfl, T11.out.cast (by simp [partsY])⟩
            case round =>
              obtain ⟨j, Gk, hj3, rfl, ht⟩ := hrel
              have T := Lib.hid ht
              clear ht T11
              have hlj : (L11 ++ partsY (l.take j)).length ≤ K0 + 1300000 := by
                have p1 := HB11.out
                have p2 := partsY_len (l := l.take j) (fun q hq => (HPS.out q (List.mem_of_mem_take hq)).1) (fun q hq => (HPS.out q (List.mem_of_mem_take hq)).2.1)
                have p3 := A6.out
                rw [List.length_append]
                rw [List.length_take] at p2
                omega
              have HLJ := Lib.hid hlj
              clear hlj
              by_cases hlt : j < l.length
              · have q3 : (l.length : Int) ≤ 16 := by have := A6.out; omega
                have hki : (j : Int) < (l.length : Int) := by omega
                have hk0 : (0 : Int) ≤ (j : Int) := by omega
                obtain ⟨b, o, rfl, hb1, hb2, h4⟩ := HP.out (by omega)
                obtain ⟨pl, hcs, k1, k2, k3⟩ := h4 j l[j] (List.getElem?_eq_getElem hlt)
                have hpf := (HPS.out l[j] (List.getElem_mem hlt)).2.2
                have hsn := partsY_snoc (List.getElem?_eq_getElem hlt)
                clear h4
                generalize l[j] = q at hcs k1 k2 k3 hpf hsn
                have HSN := Lib.hid hsn
                have HL := Lib.hid (ypart_range (w := wr) fun i v hv => (T.out.fr.cell (p := ⟨b, o + j * 22 + i, none⟩) (by have := HH.out; simp only; omega) (HPN.out b hb1 hb2)).trans (hcs i v hv))
                have K1 := Lib.hid (k1.fr T.out.fr HH.out HPN.out)
                have K2 := Lib.hid (k2.fr T.out.fr HH.out HPN.out)
                have K3 := Lib.hid (k3.fr T.out.fr HH.out HPN.out)
                have HPF := Lib.hid hpf
                clear hcs k1 k2 k3 hpf hsn
                have d21 := T.out.cell 21 _ rfl
                have hone := ycells_one q.1 pl q.2
                have FA := (Fr.refl NoB wr).alloc (.cells (ycells q.1 pl q.2) 43)
                have T12 := Lib.hid (T.out.keep FA)
                have HN := Lib.hid (heap_alloc_new wr (.cells (ycells q.1 pl q.2) 43))
                have J1 := Lib.hid (K1.out.fr FA (Nat.le_trans HH.out T.out.fr.size) (fun _ _ _ x => x))
                have J2 := Lib.hid (K2.out.fr FA (Nat.le_trans HH.out T.out.fr.size) (fun _ _ _ x => x))
                have J3 := Lib.hid (K3.out.fr FA (Nat.le_trans HH.out T.out.fr.size) (fun _ _ _ x => x))
                have HONE := Lib.hid hone
                clear FA hone
                go_wp2_with (first | (refine wpList_load_mid rfl 43 _ rfl b (o + j * 22) rfl _ _ HL.out Tryd.underlying43 rfl (size_reply _ _ _) ?_) | (refine wpList_store_row rfl 43 _ _ rfl wr.heap.size (ycells q.1 pl q.2) rfl rfl _ _ (heap_alloc_last wr _) asize22 rfl HONE.out ?_; rw [World.setRow_alloc_new]) | (refine wpList_load_row rfl 43 _ rfl wr.heap.size rfl _ _ _ _ HN.out Tryd.underlying43 rfl asize22 ?_) | fail)
                clear d21
                refine (HPF.out pl Gk _ _ T12.out.a HLJ.out J1.out J2.out J3.out (Nat.le_trans HH.out T12.out.fr.size) (fun k h1 h2 h3 => (T12.out.g k h3).elim (HPN.out k h1 h2) (fun h => by have := HH.out; omega))).mono ?_
                rintro e w13 ⟨rfl, G13, a, f, g⟩
                have T13 := Lib.hid (T12.out.next a f g)
                clear a f g T12 T HN J1 J2 J3 K1 K2 K3 HL
                go_wp2
                go_roundw
                case rel => exact ⟨j + 1, G13, by omega, by go_num, T13.out.cast (by rw [HSN.out]; simp only [List.append_assoc])⟩
                case measure => simp [intOf]; omega
              · obtain rfl : j = l.length := by omega
                have TE' := T.out
                rw [List.take_length] at TE'
                have TE := Lib.hid TE'
                clear TE' T
                go_wp2
                go_end0
                refine ⟨rfl, TE.out.put.cast ?_⟩
                rw [← HL11.out, ← HL10.out, ← HL8.out, ← HL7.out, ← HL6.out, ← HL4.out, ← HL2.out]
                unfold replyB bodyY
                simp only []
                rw [HCZ.out]
                simp [intsB]
          · rw [decide_eq_false hz]
            have hck : chk v ms = 0 := A5.out.elim (fun h => absurd ⟨h.1, List.length_eq_zero_iff.2 h.2⟩ hz) id
            have hcz : confB ⟨k, [h0, h1, h2, h3, h4], path, data, [n0, n1, n2, n3, n4, n5, n6, n7, n8, n9], ls, (v, ms)⟩ = (putE v ms).1 := by
              unfold confB putE
              rw [if_neg (fun h => hz ⟨h.1, List.length_eq_zero_iff.2 h.2⟩), if_pos hck]
            have hdl := HCL.out
            rw [hcz] at hdl
            have d19 := T9.out.cell 19 _ rfl
            have d20 := T9.out.cell 20 _ rfl
            have hpc := put_calls v B ms bd lo hi w9 (HM.out.fr T9.out.fr HH.out HPN.out) (Nat.le_trans HH.out T9.out.fr.size) (by have := HML.out; omega)
            generalize (putE v ms).1 = D at hpc hcz hdl
            have HCZ := Lib.hid hcz
            have HDL := Lib.hid hdl
            have HPC := Lib.hid hpc
            clear hz hck hcz hdl hpc
            go_wp2_with (fail)
            refine HPC.out.mono ?_
            rintro e w9p ⟨A9, c9, rfl, hrd, f9⟩
            have HRD := Lib.hid hrd
            have T9p := Lib.hid (T9.out.keep f9)
            clear hrd f9 d19 d20 HPC
            go_wp2_with (fail)
            refine (wBytes pw Gq L8 D A9 c9 w9.heap.size w9p.heap.size _ T9p.out.a (by have p1 := HB8.out; have p2 := HDL.out; omega) HRD.out (Nat.le_refl _) (fun k h1 h2 => T9.out.far k h1)).mono ?_
            rintro e w10 ⟨rfl, G10, a, f, g⟩
            have T10 := Lib.hid (T9p.out.next a f g)
            clear a f g T9 T9p
            obtain ⟨L10, hL10⟩ : ∃ x, L8 ++ textB D = x := ⟨_, rfl⟩
            have hl10 : L10.length ≤ K0 + 1165100 := by
              have p1 := HB8.out
              have p2 := HDL.out
              have p3 := textB_len D
              rw [← hL10, List.length_append]
              omega
            rw [hL10] at T10
            have HL10 := Lib.hid hL10
            have HB10 := Lib.hid hl10
            clear hL10 hl10
            have d21 := T10.out.cell 21 _ rfl
            have T10k := Lib.hid (T10.out.keep ((Fr.refl NoB _).alloc (.cells #[.int .i64 (l.length : Int)] 3)))
            have HR10 := Lib.hid (rdi_new w10 [(l.length : Int)] 3)
            go_wp2_with (fail)
            refine (ints_calls pw G10 L10 _ [(l.length : Int)] 1 _ _ _ T10k.out.a (by have := HB10.out; simp only [List.length_cons, List.length_nil]; omega) HR10.out (by simp) (fun k h1 h2 => T10.out.far k h1) (fun z hz => by rw [List.mem_singleton.1 hz]; have := A6.out; unfold OkI; omega)).mono ?_
            rintro e w11 ⟨rfl, G11, a, f, g⟩
            have T11 := Lib.hid (T10k.out.next a f g)
            clear a f g T10k T10 HR10 d21
            have d21 := T11.out.cell 21 _ rfl
            go_wp2_with (fail)
            clear d21
            obtain ⟨L11, hL11⟩ : ∃ x, L10 ++ intsB [(l.length : Int)] = x := ⟨_, rfl⟩
            rw [hL11] at T11
            have hl11 : L11.length ≤ K0 + 1165120 := by
              have p1 := HB10.out
              have p2 := intsB_len [(l.length : Int)]
              rw [← hL11]
              simp only [List.length_append, List.length_cons, List.length_nil] at p2 ⊢
              omega
            have HL11 := Lib.hid hL11
            have HB11 := Lib.hid hl11
            clear hL11 hl11
            go_loopw [84] (fun i W => ∃ (j : Nat) (Gk : Option Nat), j ≤ l.length ∧ i = .int .i64 (j : Int) ∧ BY w W pw G Gk (L11 ++ partsY (l.take j)) w.heap.size #[.int .u8 k, .int .i64 h0, .int .i64 h1, .int .i64 h2, .int .i64 h3, .int .i64 h4, .string ⟨path.toArray⟩, .slice A data.length dc, .int .i64 n0, .int .i64 n1, .int .i64 n2, .int .i64 n3, .int .i64 n4, .int .i64 n5, .int .i64 n6, .int .i64 n7, .int .i64 n8, .int .i64 n9, .slice L ls.length lc, .int .i64 v, .slice B ms.length bd, .slice P l.length pe]) (fun i _ => l.length - (intOf i).toNat)
            case atStart => exact ⟨0, G11, by omega, rfl, T11.out.cast (by simp [partsY])⟩
            case round =>
              obtain ⟨j, Gk, hj3, rfl, ht⟩ := hrel
              have T := Lib.hid ht
              clear ht T11
              have hlj : (L11 ++ partsY (l.take j)).length ≤ K0 + 1300000 := by
                have p1 := HB11.out
                have p2 := partsY_len (l := l.take j) (fun q hq => (HPS.out q (List.mem_of_mem_take hq)).1) (fun q hq => (HPS.out q (List.mem_of_mem_take hq)).2.1)
                have p3 := A6.out
                rw [List.length_append]
                rw [List.length_take] at p2
                omega
              have HLJ := Lib.hid hlj
              clear hlj
              by_cases hlt : j < l.length
              · have q3 : (l.length : Int) ≤ 16 := by have := A6.out; omega
                have hki : (j : Int) < (l.length : Int) := by omega
                have hk0 : (0 : Int) ≤ (j : Int) := by omega
                obtain ⟨b, o, rfl, hb1, hb2, h4⟩ := HP.out (by omega)
                obtain ⟨pl, hcs, k1, k2, k3⟩ := h4 j l[j] (List.getElem?_eq_getElem hlt)
                have hpf := (HPS.out l[j] (List.getElem_mem hlt)).2.2
                have hsn := partsY_snoc (List.getElem?_eq_getElem hlt)
                clear h4
                generalize l[j] = q at hcs k1 k2 k3 hpf hsn
                have HSN := Lib.hid hsn
                have HL := Lib.hid (ypart_range (w := wr) fun i v hv => (T.out.fr.cell (p := ⟨b, o + j * 22 + i, none⟩) (by have := HH.out; simp only; omega) (HPN.out b hb1 hb2)).trans (hcs i v hv))
                have K1 := Lib.hid (k1.fr T.out.fr HH.out HPN.out)
                have K2 := Lib.hid (k2.fr T.out.fr HH.out HPN.out)
                have K3 := Lib.hid (k3.fr T.out.fr HH.out HPN.out)
                have HPF := Lib.hid hpf
                clear hcs k1 k2 k3 hpf hsn
                have d21 := T.out.cell 21 _ rfl
                have hone := ycells_one q.1 pl q.2
                have FA := (Fr.refl NoB wr).alloc (.cells (ycells q.1 pl q.2) 43)
                have T12 := Lib.hid (T.out.keep FA)
                have HN := Lib.hid (heap_alloc_new wr (.cells (ycells q.1 pl q.2) 43))
                have J1 := Lib.hid (K1.out.fr FA (Nat.le_trans HH.out T.out.fr.size) (fun _ _ _ x => x))
                have J2 := Lib.hid (K2.out.fr FA (Nat.le_trans HH.out T.out.fr.size) (fun _ _ _ x => x))
                have J3 := Lib.hid (K3.out.fr FA (Nat.le_trans HH.out T.out.fr.size) (fun _ _ _ x => x))
                have HONE := Lib.hid hone
                clear FA hone
                go_wp2_with (first | (refine wpList_load_mid rfl 43 _ rfl b (o + j * 22) rfl _ _ HL.out Tryd.underlying43 rfl (size_reply _ _ _) ?_) | (refine wpList_store_row rfl 43 _ _ rfl wr.heap.size (ycells q.1 pl q.2) rfl rfl _ _ (heap_alloc_last wr _) asize22 rfl HONE.out ?_; rw [World.setRow_alloc_new]) | (refine wpList_load_row rfl 43 _ rfl wr.heap.size rfl _ _ _ _ HN.out Tryd.underlying43 rfl asize22 ?_) | fail)
                clear d21
                refine (HPF.out pl Gk _ _ T12.out.a HLJ.out J1.out J2.out J3.out (Nat.le_trans HH.out T12.out.fr.size) (fun k h1 h2 h3 => (T12.out.g k h3).elim (HPN.out k h1 h2) (fun h => by have := HH.out; omega))).mono ?_
                rintro e w13 ⟨rfl, G13, a, f, g⟩
                have T13 := Lib.hid (T12.out.next a f g)
                clear a f g T12 T HN J1 J2 J3 K1 K2 K3 HL
                go_wp2
                go_roundw
                case rel => exact ⟨j + 1, G13, by omega, by go_num, T13.out.cast (by rw [HSN.out]; simp only [List.append_assoc])⟩
                case measure => simp [intOf]; omega
              · obtain rfl : j = l.length := by omega
                have TE' := T.out
                rw [List.take_length] at TE'
                have TE := Lib.hid TE'
                clear TE' T
                go_wp2
                go_end0
                refine ⟨rfl, TE.out.put.cast ?_⟩
                rw [← HL11.out, ← HL10.out, ← HL8.out, ← HL7.out, ← HL6.out, ← HL4.out, ← HL2.out]
                unfold replyB bodyY
                simp only []
                rw [HCZ.out]
                simp [intsB]
    · have hjj : j = 0 ∨ j = 1 ∨ j = 2 ∨ j = 3 ∨ j = 4 ∨ j = 5 ∨ j = 6 ∨ j = 7 ∨ j = 8 ∨ j = 9 := by omega
      clear hj hj10
      rcases hjj with rfl | rfl | rfl | rfl | rfl | rfl | rfl | rfl | rfl | rfl
      · have hz := HST.out n0 (by simp)
        go_wp2_with (first | (refine wpList_index10 rfl _ _ rfl _ 0 rfl rfl (by decide) n0 rfl ?_) | fail)
        refine (wInt pw Gj _ n0 _ hz.1 hz.2 T.out.a (by have := HLJ.out; omega)).mono ?_
        rintro e w6 ⟨rfl, G6, a, f, g⟩
        have T6 := Lib.hid (T.out.next a f g)
        clear a f g T hz
        go_wp2
        go_roundw
        case rel => exact ⟨1, G6, by omega, by go_num, T6.out.cast (by rw [intsB_snoc (k := 0) (n := n0) rfl, ← List.append_assoc])⟩
        case measure => simp [intOf]
      · have hz := HST.out n1 (by simp)
        go_wp2_with (first | (refine wpList_index10 rfl _ _ rfl _ 1 rfl rfl (by decide) n1 rfl ?_) | fail)
        refine (wInt pw Gj _ n1 _ hz.1 hz.2 T.out.a (by have := HLJ.out; omega)).mono ?_
        rintro e w6 ⟨rfl, G6, a, f, g⟩
        have T6 := Lib.hid (T.out.next a f g)
        clear a f g T hz
        go_wp2
        go_roundw
        case rel => exact ⟨2, G6, by omega, by go_num, T6.out.cast (by rw [intsB_snoc (k := 1) (n := n1) rfl, ← List.append_assoc])⟩
        case measure => simp [intOf]
      · have hz := HST.out n2 (by simp)
        go_wp2_with (first | (refine wpList_index10 rfl _ _ rfl _ 2 rfl rfl (by decide) n2 rfl ?_) | fail)
        refine (wInt pw Gj _ n2 _ hz.1 hz.2 T.out.a (by have := HLJ.out; omega)).mono ?_
        rintro e w6 ⟨rfl, G6, a, f, g⟩
        have T6 := Lib.hid (T.out.next a f g)
        clear a f g T hz
        go_wp2
        go_roundw
        case rel => exact ⟨3, G6, by omega, by go_num, T6.out.cast (by rw [intsB_snoc (k := 2) (n := n2) rfl, ← List.append_assoc])⟩
        case measure => simp [intOf]
      · have hz := HST.out n3 (by simp)
        go_wp2_with (first | (refine wpList_index10 rfl _ _ rfl _ 3 rfl rfl (by decide) n3 rfl ?_) | fail)
        refine (wInt pw Gj _ n3 _ hz.1 hz.2 T.out.a (by have := HLJ.out; omega)).mono ?_
        rintro e w6 ⟨rfl, G6, a, f, g⟩
        have T6 := Lib.hid (T.out.next a f g)
        clear a f g T hz
        go_wp2
        go_roundw
        case rel => exact ⟨4, G6, by omega, by go_num, T6.out.cast (by rw [intsB_snoc (k := 3) (n := n3) rfl, ← List.append_assoc])⟩
        case measure => simp [intOf]
      · have hz := HST.out n4 (by simp)
        go_wp2_with (first | (refine wpList_index10 rfl _ _ rfl _ 4 rfl rfl (by decide) n4 rfl ?_) | fail)
        refine (wInt pw Gj _ n4 _ hz.1 hz.2 T.out.a (by have := HLJ.out; omega)).mono ?_
        rintro e w6 ⟨rfl, G6, a, f, g⟩
        have T6 := Lib.hid (T.out.next a f g)
        clear a f g T hz
        go_wp2
        go_roundw
        case rel => exact ⟨5, G6, by omega, by go_num, T6.out.cast (by rw [intsB_snoc (k := 4) (n := n4) rfl, ← List.append_assoc])⟩
        case measure => simp [intOf]
      · have hz := HST.out n5 (by simp)
        go_wp2_with (first | (refine wpList_index10 rfl _ _ rfl _ 5 rfl rfl (by decide) n5 rfl ?_) | fail)
        refine (wInt pw Gj _ n5 _ hz.1 hz.2 T.out.a (by have := HLJ.out; omega)).mono ?_
        rintro e w6 ⟨rfl, G6, a, f, g⟩
        have T6 := Lib.hid (T.out.next a f g)
        clear a f g T hz
        go_wp2
        go_roundw
        case rel => exact ⟨6, G6, by omega, by go_num, T6.out.cast (by rw [intsB_snoc (k := 5) (n := n5) rfl, ← List.append_assoc])⟩
        case measure => simp [intOf]
      · have hz := HST.out n6 (by simp)
        go_wp2_with (first | (refine wpList_index10 rfl _ _ rfl _ 6 rfl rfl (by decide) n6 rfl ?_) | fail)
        refine (wInt pw Gj _ n6 _ hz.1 hz.2 T.out.a (by have := HLJ.out; omega)).mono ?_
        rintro e w6 ⟨rfl, G6, a, f, g⟩
        have T6 := Lib.hid (T.out.next a f g)
        clear a f g T hz
        go_wp2
        go_roundw
        case rel => exact ⟨7, G6, by omega, by go_num, T6.out.cast (by rw [intsB_snoc (k := 6) (n := n6) rfl, ← List.append_assoc])⟩
        case measure => simp [intOf]
      · have hz := HST.out n7 (by simp)
        go_wp2_with (first | (refine wpList_index10 rfl _ _ rfl _ 7 rfl rfl (by decide) n7 rfl ?_) | fail)
        refine (wInt pw Gj _ n7 _ hz.1 hz.2 T.out.a (by have := HLJ.out; omega)).mono ?_
        rintro e w6 ⟨rfl, G6, a, f, g⟩
        have T6 := Lib.hid (T.out.next a f g)
        clear a f g T hz
        go_wp2
        go_roundw
        case rel => exact ⟨8, G6, by omega, by go_num, T6.out.cast (by rw [intsB_snoc (k := 7) (n := n7) rfl, ← List.append_assoc])⟩
        case measure => simp [intOf]
      · have hz := HST.out n8 (by simp)
        go_wp2_with (first | (refine wpList_index10 rfl _ _ rfl _ 8 rfl rfl (by decide) n8 rfl ?_) | fail)
        refine (wInt pw Gj _ n8 _ hz.1 hz.2 T.out.a (by have := HLJ.out; omega)).mono ?_
        rintro e w6 ⟨rfl, G6, a, f, g⟩
        have T6 := Lib.hid (T.out.next a f g)
        clear a f g T hz
        go_wp2
        go_roundw
        case rel => exact ⟨9, G6, by omega, by go_num, T6.out.cast (by rw [intsB_snoc (k := 8) (n := n8) rfl, ← List.append_assoc])⟩
        case measure => simp [intOf]
      · have hz := HST.out n9 (by simp)
        go_wp2_with (first | (refine wpList_index10 rfl _ _ rfl _ 9 rfl rfl (by decide) n9 rfl ?_) | fail)
        refine (wInt pw Gj _ n9 _ hz.1 hz.2 T.out.a (by have := HLJ.out; omega)).mono ?_
        rintro e w6 ⟨rfl, G6, a, f, g⟩
        have T6 := Lib.hid (T.out.next a f g)
        clear a f g T hz
        go_wp2
        go_roundw
        case rel => exact ⟨10, G6, by omega, by go_num, T6.out.cast (by rw [intsB_snoc (k := 9) (n := n9) rfl, ← List.append_assoc])⟩
        case measure => simp [intOf]
end Go.Proofs.YtlckgkpgllhpbaaDoor

/- Ayq -/
namespace Go.Proofs.YtlckgkpgllhpbaaDoor
open Go.RowKit

theorem yputx_calls (f : Fy) (pl : Py) (l : List (Fy × Nat)) (pw : Nat) (G : Option Nat) (K0 : Nat) (hK0 : K0 ≤ 1000000000) (L0 : List UInt8) (lo hi : Nat) (w : World) (hok : f.Ok) (hans : AnsY f l.length) (hw : Wtr w pw G L0) (hlim : L0.length ≤ K0) (h : RdY w lo hi f pl l) (hh : hi ≤ w.heap.size) (hpn : ∀ k, lo ≤ k → k < hi → ¬ WF pw G k) (hps : ∀ q ∈ l, PartY q ∧ q.1.Ok ∧ PutFlat pw lo hi (K0 + 1300000) q) :
    Calls Tryd.prog 39 #[.pointer (some ⟨pw, 0, none⟩), yval f pl l.length] w fun e w' => e = .returned (.tuple #[]) ∧ Put pw G (L0 ++ replyB f l) w w' := by
  obtain ⟨k, hd, path, data, st, ls, c⟩ := f
  obtain ⟨v, ms⟩ := c
  have hl := hok.hl
  have sl := hok.sl
  simp only at hl sl
  match hd, hl with
  | [a0, a1, a2, a3, a4], _ =>
    match st, sl with
    | [b0, b1, b2, b3, b4, b5, b6, b7, b8, b9], _ =>
      exact yput_core k a0 a1 a2 a3 a4 path pl.A data pl.c b0 b1 b2 b3 b4 b5 b6 b7 b8 b9 pl.L ls pl.n v pl.B ms pl.d pl.P l pl.e pw G L0 lo hi w hok hans hw K0 hK0 hlim h.data h.ls h.ms h.parts hh hpn hps
theorem yputf_calls (pw lo hi K : Nat) (hK : K ≤ 1000000000) (q : Fy × Nat) (hq : q.1.Ok) (hp : PartY q) : PutFlat pw lo hi K q := by
  intro pl G L w hw hl h1 h2 h3 hh hpn
  obtain ⟨f, np⟩ := q
  obtain ⟨hp1, hp2, hp3⟩ := hp
  simp only at hp1 hp2 hp3 hq h1 h2 h3
  subst hp2
  refine (yputx_calls f pl [] pw G K hK L lo hi w hq hp1 hw hl ⟨h1, h2, h3, RdPy.nil _ _ _ _⟩ hh hpn (fun q hq => by cases hq)).mono ?_
  rintro e w' ⟨rfl, hpu⟩
  exact ⟨rfl, hpu.cast (by simp [replyB, partsY])⟩
theorem yputd_calls (f : Fy) (pl : Py) (l : List (Fy × Nat)) (pw : Nat) (G : Option Nat) (L0 : List UInt8) (lo hi : Nat) (w : World) (hok : f.Ok) (hoks : ∀ q ∈ l, q.1.Ok) (hr : RightY f l) (hw : Wtr w pw G L0) (hlim : L0.length ≤ 1000000) (h : RdY w lo hi f pl l) (hh : hi ≤ w.heap.size) (hpn : ∀ k, lo ≤ k → k < hi → ¬ WF pw G k) :
    Calls Tryd.prog 39 #[.pointer (some ⟨pw, 0, none⟩), yval f pl l.length] w fun e w' => e = .returned (.tuple #[]) ∧ Put pw G (L0 ++ replyB f l) w w' :=
  yputx_calls f pl l pw G 1000000 (by omega) L0 lo hi w hok hr.1 hw hlim h hh hpn (fun q hq => ⟨hr.2 q hq, hoks q hq, yputf_calls pw lo hi _ (by omega) q (hoks q hq) (hr.2 q hq)⟩)
end Go.Proofs.YtlckgkpgllhpbaaDoor

/- Ayu -/
namespace Go.Proofs.YtlckgkpgllhpbaaDoor
open Go.RowKit

def putY (f : Fy) (l : List (Fy × Nat)) : List UInt8 × Int := if RightY f l then (replyB f l, 0) else ([], 4)
theorem wf_none {p k : Nat} (h : WF p none k) : k = p := by
  rcases h with h | h
  · exact h
  · cases h
set_option maxRecDepth 8000 in
set_option maxHeartbeats 3200000 in
theorem yput_calls (f : Fy) (p : Py) (l : List (Fy × Nat)) (lo hi : Nat) (w : World) (hf : f.Ok) (hok : ∀ q ∈ l, q.1.Ok) (hl : l.length ≤ 140737488355328) (hD : RdY w lo hi f p l) (hh : hi ≤ w.heap.size) :
    Calls Tryd.prog 15 #[yval f p l.length] w fun e w' => ∃ v, e = .returned (.tuple #[v, .int .i64 (putY f l).2]) ∧ w'.ownsRow w.heap.size 5 1 v (putY f l).1.length (bv (putY f l).1) ∧ Fr NoB w w' := by
  have F0 := Lib.hid ((Fr.refl NoB w).alloc (.cells (ycells f p l.length) 43))
  have HB := Lib.hid (heap_alloc_new w (.cells (ycells f p l.length) 43))
  have HA := yansd_calls f p l lo hi _ hf hok hl (hD.fr F0.out hh (fun _ _ _ x => x)) (Nat.le_trans hh F0.out.size)
  have HDD := Lib.hid hD
  have HHH := Lib.hid hh
  have HOK := Lib.hid hf
  have HOKS := Lib.hid hok
  clear hD hh hf hok
  by_cases hR : RightY f l
  · rw [show putY f l = (replyB f l, 0) from if_pos hR]
    rw [decide_eq_true hR] at HA
    have HAA := Lib.hid HA
    have HR := Lib.hid hR
    clear HA hR
    have hlen := replyB_len HR.out HOK.out HOKS.out
    have HLEN := Lib.hid hlen
    clear hlen
    simp only [yval] at *
    go_enter Tryd.func15, Tryd.ntmps15
    go_wp2_with (first | (refine wpList_load_row rfl 43 _ rfl w.heap.size rfl _ _ _ _ HB.out Tryd.underlying43 rfl asize22 ?_) | fail)
    refine HAA.out.mono ?_
    rintro e w1 ⟨rfl, f1⟩
    have F1 := Lib.hid (F0.out.trans f1 fun _ _ x => x)
    have B1 := Lib.hid (f1.at_ HB.out (fun x => x))
    clear f1 HAA
    go_wp2_with (fail)
    refine (wNew w1).mono ?_
    rintro e w2 ⟨rfl, a2, f2, s2⟩
    have F2 := Lib.hid (F1.out.trans f2 fun _ _ x => x)
    have B2 := Lib.hid (f2.at_ B1.out (fun x => x))
    have A2 := Lib.hid a2
    clear a2 f2 s2 B1
    go_wp2_with (first | (refine wpList_load_row rfl 43 _ rfl w.heap.size rfl _ _ _ _ B2.out Tryd.underlying43 rfl asize22 ?_) | fail)
    refine (yputd_calls f p l w1.heap.size none [] lo hi w2 HOK.out HOKS.out HR.out A2.out (by simp) (HDD.out.fr F2.out HHH.out (fun _ _ _ x => x)) (Nat.le_trans HHH.out F2.out.size) (fun k h1 h2 h3 => by have := F1.out.size; have := HHH.out; have := wf_none h3; omega)).mono ?_
    rintro e w3 ⟨rfl, G3, a3, f3, g3⟩
    have A3 := Lib.hid a3
    have F3 := Lib.hid (F2.out.trans f3 fun k hk hx => absurd (wf_none hx) (by have := F1.out.size; omega))
    clear a3 f3 g3
    go_wp2_with (fail)
    refine (wDone w1.heap.size G3 _ _ A3.out (by have := HLEN.out; simp only [List.nil_append]; omega)).mono ?_
    rintro e w8 ⟨v8, rfl, o8, b8⟩
    rw [List.nil_append] at o8
    obtain ⟨A8, c8, rfl, n1, n2⟩ := own_form o8
    go_wp2
    go_ret2
    exact ⟨.slice A8 (replyB f l).length c8, rfl, own_low o8 F3.out.size, F3.out.then (Fr.ofBelow b8)⟩
  · rw [show putY f l = ([], 4) from if_neg hR]
    rw [decide_eq_false hR] at HA
    have HAA := Lib.hid HA
    clear HA hR
    simp only [yval] at *
    go_enter Tryd.func15, Tryd.ntmps15
    go_wp2_with (first | (refine wpList_load_row rfl 43 _ rfl w.heap.size rfl _ _ _ _ HB.out Tryd.underlying43 rfl asize22 ?_) | fail)
    refine HAA.out.mono ?_
    rintro e w1 ⟨rfl, f1⟩
    have F1 := Lib.hid (F0.out.trans f1 fun _ _ x => x)
    clear f1 HAA
    go_wp2
    go_ret2
    exact ⟨.slice none 0 0, rfl, World.ownsRow_nil _ _ _ _, F1.out⟩
end Go.Proofs.YtlckgkpgllhpbaaDoor
