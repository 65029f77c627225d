/-
  Ayi: GetReply of any bytes (gen_ygr.py).
-/
import Derived.Test.YtlckgkpgllhpbaaDoorAyg
import Derived.Test.YtlckgkpgllhpbaaDoorAyu
namespace Go.Proofs.YtlckgkpgllhpbaaDoor
open Go.RowKit

theorem held_load_on {P : Program} {ops : Array Oper} {Q : Exit → Act → World → Prop} {rest : List Oper} {a : Act} {w : World} {ty tp : TypeId} {x : Operand} {dst : Option Tmp} {ps : String} {af : Array Edge} {gd : Nat × Bool} (h : Held (wpList P ops Q ({ dst := dst, op := .load ty x, type := tp, pos := ps, after := af, guard := some gd } :: rest) a w)) : wpList P ops Q ({ dst := dst, op := .load ty x, type := tp, pos := ps, after := af, guard := some gd } :: rest) a w := h
theorem wpList_load_on {P : Program} {ops : Array Oper} {rest : List Oper} {o : Oper} {a : Act} {w : World} {Q : Exit → Act → World → Prop} (hw : Region.wanted o (yielded ops a.tmps)) (ty : TypeId) (x : Operand) (ho : o.op = .load ty x)
    (g : Nat) (hx : a.eval x = .pointer (some ⟨g, 0, none⟩)) (t : TypeId) (cs : Array Value) (fr : Nat × Nat) (d : TypeDesc) (hg : w.heap[g]? = some (.cells cs t fr))
    (hu : P.underlying ty = some d) (hd : (match d with | .struct _ | .array _ _ => true | _ => false) = true) (hi : (P.info? ty).map (·.size) = some cs.size)
    (h : wpList P ops Q rest (a.put o.dst (.agg cs)) w) : wpList P ops Q (o :: rest) a w :=
  wpList_step fun K hK => by rw [if_pos hw]; exact wp_load_row ty x ho g hx t cs fr d hg hu hd hi (hK _ _ h)
def fy0 : Fy := ⟨0, [0, 0, 0, 0, 0], [], [], [0, 0, 0, 0, 0, 0, 0, 0, 0, 0], [], (0, [])⟩
theorem own_rdt {w : World} {base e n c : Nat} {A : Option Addr} {l : List (List UInt8)} (h : w.ownsRow base e 1 (.slice A n c) l.length (tv l)) : RdT w base w.heap.size A l := by
  intro hl
  rcases h.2 with ⟨_, h0⟩ | ⟨g, cap, cur, hv, hb, hh, h1, h2, h3, h4⟩
  · omega
  · cases hv
    refine ⟨g, 0, rfl, hb, Lib.lt_of_heap hh, fun i t ht => ?_⟩
    have := h.cells (g := g) rfl i (.string ⟨t.toArray⟩) (by simp [tv, ht])
    rwa [Lib.addr_add] at this
/-- A reply that was read: its lists are new memory, no two in one block. -/
structure GotY (w0 w : World) (f : Fy) (pl : Py) (l : List (Fy × Nat)) : Prop where
  p : ∃ PL : List (Fy × Py), l = PL.map (fun x => (x.1, 0)) ∧ Rows w w0.heap.size (rowsYd f pl PL)
theorem GotY.low {w0 w1 w : World} {f : Fy} {pl : Py} {l : List (Fy × Nat)} (h : GotY w1 w f pl l) (hs : w0.heap.size ≤ w1.heap.size) : GotY w0 w f pl l := by
  obtain ⟨PL, h1, h2⟩ := h.p
  exact ⟨PL, h1, h2.low hs⟩
theorem GotY.keep {w0 w w1 : World} {M : Nat → Prop} {f : Fy} {pl : Py} {l : List (Fy × Nat)} (h : GotY w0 w f pl l) (fr : Fr M w w1) (hm : ∀ k, M k → k < w0.heap.size ∨ w.heap.size ≤ k) : GotY w0 w1 f pl l := by
  obtain ⟨PL, h1, h2⟩ := h.p
  exact ⟨PL, h1, h2.fr fr (fun k hk x hx hg => by have := (h2.own x hx).lt hg; rcases hm k hk with h | h <;> omega)⟩
theorem rowsY_mem {f : Fy} {pl : Py} {PL : List (Fy × Py)} {x : Fy × Py} (h : x ∈ PL) {r : RowO} (hr : r ∈ rowsY x.1 x.2) : r ∈ rowsYd f pl PL :=
  List.mem_cons_of_mem _ (List.mem_append_left _ (List.mem_flatMap.2 ⟨x, List.mem_reverse.2 h, hr⟩))
theorem rowsY_in {w : World} {base : Nat} {f : Fy} {pl : Py} (h : ∀ r ∈ rowsY f pl, r.In w base) : Rd w base w.heap.size pl.A f.data ∧ RdT w base w.heap.size pl.L f.ls ∧ RdM w base w.heap.size pl.B f.c.2 := by
  have h1 : w.ownsRow base 5 1 (.slice pl.A f.data.length pl.c) f.data.length (bv f.data) := h ⟨.slice pl.A f.data.length pl.c, 5, 1, f.data.length, bv f.data⟩ (List.mem_cons_of_mem _ (List.mem_cons_of_mem _ (List.mem_cons_self)))
  have h2 : w.ownsRow base 9 1 (.slice pl.L f.ls.length pl.n) f.ls.length (tv f.ls) := h ⟨.slice pl.L f.ls.length pl.n, 9, 1, f.ls.length, tv f.ls⟩ (List.mem_cons_of_mem _ (List.mem_cons_self))
  have h3 : w.ownsRow base 106 4 (.slice pl.B f.c.2.length pl.d) f.c.2.length (mv f.c.2) := h ⟨.slice pl.B f.c.2.length pl.d, 106, 4, f.c.2.length, mv f.c.2⟩ (List.mem_cons_self)
  exact ⟨own_rd h1, own_rdt h2, own_rdm h3⟩
theorem GotY.rd {w0 w : World} {f : Fy} {pl : Py} {l : List (Fy × Nat)} (h : GotY w0 w f pl l) : RdY w w0.heap.size w.heap.size f pl l := by
  obtain ⟨PL, rfl, hr⟩ := h.p
  have hm : ∀ r ∈ rowsY f pl, r.In w w0.heap.size := fun r h => hr.own r (List.mem_cons_of_mem _ (List.mem_append_right _ h))
  have ho : w.ownsRow w0.heap.size 43 22 (.slice pl.P PL.length pl.e) PL.length (yv PL) := hr.own _ (List.mem_cons_self)
  obtain ⟨k1, k2, k3⟩ := rowsY_in hm
  refine ⟨k1, k2, k3, fun hl => ?_⟩
  rw [List.length_map] at hl
  obtain ⟨g, cap, hv, hb, hlt⟩ := ho.form hl
  have hP : pl.P = some ⟨g, 0, none⟩ := by injection hv
  refine ⟨g, 0, hP, hb, hlt, fun i q hq => ?_⟩
  rw [List.getElem?_map] at hq
  cases hx : PL[i]? with
  | none => rw [hx] at hq; cases hq
  | some x =>
    rw [hx] at hq
    simp only [Option.map_some, Option.some.injEq] at hq
    subst hq
    have hmx : ∀ r ∈ rowsY x.1 x.2, r.In w w0.heap.size := fun r h => hr.own r (rowsY_mem (List.mem_of_getElem? hx) h)
    obtain ⟨k1, k2, k3⟩ := rowsY_in hmx
    refine ⟨x.2, fun j v hv => ?_, k1, k2, k3⟩
    have := ho.cells (g := g) (by rw [hP]; rfl) (i * 22 + j) v (yv_get hx j v hv)
    rw [Lib.addr_add, Nat.zero_add] at this
    rw [Nat.zero_add]
    exact this
theorem GotY.none (w0 w : World) : GotY w0 w fy0 py0 [] := by
  refine ⟨[], rfl, fun x hx => ?_, ?_⟩
  · simp only [rowsYd, rowsY, List.reverse_nil, List.flatMap_nil, List.nil_append, List.mem_cons, List.not_mem_nil, or_false] at hx
    rcases hx with rfl | rfl | rfl | rfl <;> exact World.ownsRow_nil _ _ _ _
  · have h0 : ∀ x ∈ rowsYd fy0 py0 [], ∀ g, ¬ x.At g := fun x hx g hg => by
      simp only [rowsYd, rowsY, List.reverse_nil, List.flatMap_nil, List.nil_append, List.mem_cons, List.not_mem_nil, or_false] at hx
      rcases hx with rfl | rfl | rfl | rfl <;> cases hg
    exact List.pairwise_of_forall_mem_list fun x hx y _ g hg => absurd hg (h0 x hx g)
set_option maxRecDepth 8000 in
set_option maxHeartbeats 6400000 in
theorem ygetR_calls (A : Option Addr) (b : List UInt8) (c lo hi : Nat) (w : World) (h : Rd w lo hi A b) (hh : hi ≤ w.heap.size) (hl : b.length ≤ 140737488355328) :
    Calls Tryd.prog 23 #[.slice A b.length c] w fun e w' => ∃ f pl l zz, e = .returned (.tuple #[yval f pl l.length, .int .i64 zz]) ∧ ((getY b = some (f, l) ∧ zz = 0) ∨ (getY b = none ∧ f = fy0 ∧ l = [] ∧ pl = py0 ∧ zz = 4)) ∧ GotY w w' f pl l ∧ Fr NoB w w' := by
  have HGD : Hid (getY b = if (rdRep b).1.2.2 = true ∧ rWhole (rdRep b).2 = true ∧ RightY (rdRep b).1.1 (rdRep b).1.2.1 then some ((rdRep b).1.1, (rdRep b).1.2.1) else none) := rfl
  have HDD : Hid (rdYd true (some b) = rdRep b) := rfl
  have HROK := Lib.hid (rdRep_ok b)
  generalize rdRep b = rl at HGD HDD HROK
  obtain ⟨⟨f, l, ok⟩, st⟩ := rl
  simp only at HGD HROK
  have HR := Lib.hid h
  have HLM : Hid (RLim (some b)) := Lib.hid (by simp only [RLim]; omega)
  clear h
  go_enter Tryd.func23, Tryd.ntmps23
  go_wp2_with (fail)
  have F0 := Lib.hid ((Fr.refl NoB w).alloc (.cells #[.int .u8 0, .int .i64 0, .int .i64 0, .int .i64 0, .int .i64 0, .int .i64 0, .string ⟨#[]⟩, .slice none 0 0, .int .i64 0, .int .i64 0, .int .i64 0, .int .i64 0, .int .i64 0, .int .i64 0, .int .i64 0, .int .i64 0, .int .i64 0, .int .i64 0, .slice none 0 0, .int .i64 0, .slice none 0 0, .slice none 0 0] 43))
  have HRV := Lib.hid (heap_alloc_new w (.cells #[.int .u8 0, .int .i64 0, .int .i64 0, .int .i64 0, .int .i64 0, .int .i64 0, .string ⟨#[]⟩, .slice none 0 0, .int .i64 0, .int .i64 0, .int .i64 0, .int .i64 0, .int .i64 0, .int .i64 0, .int .i64 0, .int .i64 0, .int .i64 0, .int .i64 0, .slice none 0 0, .int .i64 0, .slice none 0 0, .slice none 0 0] 43))
  have HSW : Hid ((w.alloc (.cells #[.int .u8 0, .int .i64 0, .int .i64 0, .int .i64 0, .int .i64 0, .int .i64 0, .string ⟨#[]⟩, .slice none 0 0, .int .i64 0, .int .i64 0, .int .i64 0, .int .i64 0, .int .i64 0, .int .i64 0, .int .i64 0, .int .i64 0, .int .i64 0, .int .i64 0, .slice none 0 0, .int .i64 0, .slice none 0 0, .slice none 0 0] 43)).heap.size = w.heap.size + 1) := by show _ = _; simp
  generalize w.alloc (.cells #[.int .u8 0, .int .i64 0, .int .i64 0, .int .i64 0, .int .i64 0, .int .i64 0, .string ⟨#[]⟩, .slice none 0 0, .int .i64 0, .int .i64 0, .int .i64 0, .int .i64 0, .int .i64 0, .int .i64 0, .int .i64 0, .int .i64 0, .int .i64 0, .int .i64 0, .slice none 0 0, .int .i64 0, .slice none 0 0, .slice none 0 0] 43) = wb at F0 HRV HSW ⊢
  obtain ⟨RV, hRV⟩ : ∃ RV, w.heap.size = RV := ⟨_, rfl⟩
  have HWR := Lib.hid hRV
  rw [hRV] at HRV HSW ⊢
  clear hRV
  refine (rNew_calls A b c lo hi wb (HR.out.fr F0.out hh (fun _ _ _ x => x)) hl).mono ?_
  rintro e w1 ⟨p, rfl, q1, q2, q3, -⟩
  have Q1 := Lib.hid q1
  have Q2 := Lib.hid q2
  have Q3 := Lib.hid q3
  clear q1 q2 q3 HR
  go_wp2_with (fail)
  refine (ygetDeep_calls wb.heap.size p (some b) w1 Q2.out Q1.out HLM.out).mono ?_
  rintro e w2 ⟨pl, PL, rfl, hpl, a, fr, rows, -⟩
  rw [HDD.out] at hpl a rows ⊢
  simp only at hpl a rows ⊢
  have F2 := Lib.hid (Q3.out.upE fr (fun k hk => by simp only [OneB] at hk; have := Q1.out; omega))
  have A2 := Lib.hid a
  have G2 : Hid (GotY wb w2 f pl l) := Lib.hid (GotY.low ⟨PL, hpl, rows⟩ Q3.out.size)
  have hll : PL.length = l.length := by rw [hpl, List.length_map]
  rw [hll]
  clear hpl a fr rows hll Q2 Q3
  have H22 : Hid ((ycells f pl l.length).size = 22) := rfl
  have HON : Hid ((ycells f pl l.length).all (·.oneCell') = true) := Lib.hid (ycells_one _ _ _)
  have HAN := fun W (F : Fr NoB w2 W) => yansd_calls f pl l wb.heap.size w2.heap.size W HROK.out.1 (fun q hq => (HROK.out.2.1 q hq).1) (by have := HROK.out.2.2; omega) (G2.out.rd.fr F (Nat.le_refl _) (fun _ _ _ x => x)) F.size
  have HVAL : Hid (yval f pl l.length = .agg (ycells f pl l.length)) := rfl
  rw [show yval f pl l.length = .agg (ycells f pl l.length) from rfl] at HAN ⊢
  have HAN := Lib.hid HAN
  obtain ⟨CS, hCS⟩ : ∃ CS, ycells f pl l.length = CS := ⟨_, rfl⟩
  rw [hCS] at H22 HON HAN HVAL ⊢
  clear hCS
  have HS2 : Hid ((Tryd.prog.info? 43).map (·.size) = some CS.size) := Lib.hid (by rw [H22.out]; exact rsize22)
  go_wp2_with (first | (with_reducible refine held_store (ty := 43) ?_) | fail)
  unfold Held
  refine wpList_store_row rfl 43 _ _ rfl w2.heap.size CS ?_ ?_ _ _ (heap_alloc_new w2 _) HS2.out H22.out.symm HON.out ?_
  · rfl
  · rfl
  rw [World.setRow_alloc_new]
  have hb3 := heap_alloc_new w2 (.cells CS 43)
  have F3 := Lib.hid ((Fr.refl NoB w2).alloc (.cells CS 43))
  have HPB : Hid (p < w2.heap.size) := Lib.hid A2.out.lt
  generalize w2.alloc (.cells CS 43) = w3 at hb3 F3 ⊢
  generalize hXB : w2.heap.size = XB at hb3 ⊢
  clear hXB
  have HB3 := Lib.hid hb3
  have hwc := rWhole_calls wb.heap.size p st w3 (A2.out.fr F3.out (fun _ _ _ x => x) Q1.out)
  have HWC := Lib.hid hwc
  have HRV3 := Lib.hid ((F2.out.then F3.out).at_ HRV.out (fun x => x))
  have HAN3 := Lib.hid (HAN.out w3 F3.out)
  clear hb3 hwc
  cases ok
  · as_aux_lemma =>
    have hnone : getY b = none := by rw [HGD.out, if_neg (fun hx => by cases hx.1)]
    have HNONE := Lib.hid hnone
    clear hnone HGD HDD HWC HAN HAN3
    go_wp2_with (first | (with_reducible refine held_store (ty := 43) ?_) | fail)
    unfold Held
    refine wpList_store_row rfl 43 _ _ rfl RV #[.int .u8 0, .int .i64 0, .int .i64 0, .int .i64 0, .int .i64 0, .int .i64 0, .string ⟨#[]⟩, .slice none 0 0, .int .i64 0, .int .i64 0, .int .i64 0, .int .i64 0, .int .i64 0, .int .i64 0, .int .i64 0, .int .i64 0, .int .i64 0, .int .i64 0, .slice none 0 0, .int .i64 0, .slice none 0 0, .slice none 0 0] ?_ ?_ _ _ HRV3.out rsize22 rfl (by simp [Value.oneCell']) ?_
    · rfl
    · rfl
    go_wp2
    refine bodyPost_ret (v := .tuple #[.agg #[.int .u8 0, .int .i64 0, .int .i64 0, .int .i64 0, .int .i64 0, .int .i64 0, .string ⟨#[]⟩, .slice none 0 0, .int .i64 0, .int .i64 0, .int .i64 0, .int .i64 0, .int .i64 0, .int .i64 0, .int .i64 0, .int .i64 0, .int .i64 0, .int .i64 0, .slice none 0 0, .int .i64 0, .slice none 0 0, .slice none 0 0], .int .i64 4]) (results_row_tmp (fn := Tryd.f23) (p := 2) (u := 3) (ty := 43) (by kernel_rfl) _ _ RV 43 _ _ _ rfl (setRow_heap _ _ _ _ _ _ HRV3.out) Tryd.underlying43 rfl (by kernel_rfl)) rfl ?_
    exact ⟨fy0, py0, [], 4, rfl, .inr ⟨HNONE.out, rfl, rfl, rfl, rfl⟩, GotY.none _ _, (F0.out.then (F2.out.then F3.out)).setRow (fun hx => absurd hx (by have := HWR.out; omega)) _⟩
  by_cases hwh : rWhole st = true
  rotate_left
  · as_aux_lemma =>
    have hnone : getY b = none := by rw [HGD.out, if_neg (fun hx => hwh hx.2.1)]
    have hwf : rWhole st = false := by simpa using hwh
    rw [hwf] at HWC
    have HNONE := Lib.hid hnone
    clear hnone HGD HDD HAN HAN3
    go_wp2_with (fail)
    refine HWC.out.mono ?_
    rintro e w12 ⟨rfl, rfl⟩
    clear HWC
    go_wp2_with (first | (with_reducible refine held_store (ty := 43) ?_) | fail)
    unfold Held
    refine wpList_store_row rfl 43 _ _ rfl RV #[.int .u8 0, .int .i64 0, .int .i64 0, .int .i64 0, .int .i64 0, .int .i64 0, .string ⟨#[]⟩, .slice none 0 0, .int .i64 0, .int .i64 0, .int .i64 0, .int .i64 0, .int .i64 0, .int .i64 0, .int .i64 0, .int .i64 0, .int .i64 0, .int .i64 0, .slice none 0 0, .int .i64 0, .slice none 0 0, .slice none 0 0] ?_ ?_ _ _ HRV3.out rsize22 rfl (by simp [Value.oneCell']) ?_
    · rfl
    · rfl
    go_wp2
    refine bodyPost_ret (v := .tuple #[.agg #[.int .u8 0, .int .i64 0, .int .i64 0, .int .i64 0, .int .i64 0, .int .i64 0, .string ⟨#[]⟩, .slice none 0 0, .int .i64 0, .int .i64 0, .int .i64 0, .int .i64 0, .int .i64 0, .int .i64 0, .int .i64 0, .int .i64 0, .int .i64 0, .int .i64 0, .slice none 0 0, .int .i64 0, .slice none 0 0, .slice none 0 0], .int .i64 4]) (results_row_tmp (fn := Tryd.f23) (p := 2) (u := 3) (ty := 43) (by kernel_rfl) _ _ RV 43 _ _ _ rfl (setRow_heap _ _ _ _ _ _ HRV3.out) Tryd.underlying43 rfl (by kernel_rfl)) rfl ?_
    exact ⟨fy0, py0, [], 4, rfl, .inr ⟨HNONE.out, rfl, rfl, rfl, rfl⟩, GotY.none _ _, (F0.out.then (F2.out.then F3.out)).setRow (fun hx => absurd hx (by have := HWR.out; omega)) _⟩
  rw [hwh] at HWC
  go_wp2_with (fail)
  refine HWC.out.mono ?_
  rintro e w12 ⟨rfl, rfl⟩
  clear HWC
  go_wp2_with (first | (with_reducible refine held_load_on (ty := 43) ?_) | fail)
  unfold Held
  refine wpList_load_on (by rfl) 43 _ rfl XB rfl _ _ _ _ HB3.out Tryd.underlying43 rfl HS2.out ?_
  go_wp2_with (fail)
  refine HAN3.out.mono ?_
  rintro e w13 ⟨rfl, f13⟩
  have F13 := Lib.hid ((F2.out.then F3.out).then f13)
  have HRV13 := Lib.hid (f13.at_ HRV3.out (fun x => x))
  have HB13 := Lib.hid (f13.at_ HB3.out (fun x => x))
  have G13 := Lib.hid (G2.out.keep (F3.out.then f13) (fun _ hk => hk.elim))
  clear f13 HAN HAN3 HRV3 HB3
  by_cases hright : RightY f l
  · as_aux_lemma =>
    rw [decide_eq_true hright]
    have hsome : getY b = some (f, l) := by rw [HGD.out, if_pos (by simp [hwh, hright])]
    have HSOME := Lib.hid hsome
    clear hsome HGD HDD hright
    go_wp2_with (first | (with_reducible refine held_load (ty := 43) ?_) | fail)
    unfold Held
    refine wpList_load_row rfl 43 (.tmp 5) rfl XB rfl 43 CS (0, 0) _ HB13.out Tryd.underlying43 rfl HS2.out ?_
    go_wp2_with (first | (with_reducible refine held_store (ty := 43) ?_) | fail)
    unfold Held
    refine wpList_store_row rfl 43 _ _ rfl RV CS ?_ ?_ _ _ HRV13.out HS2.out H22.out.symm HON.out ?_
    · rfl
    · rfl
    go_wp2
    refine bodyPost_ret (v := .tuple #[.agg CS, .int .i64 0]) (results_row_tmp (fn := Tryd.f23) (p := 2) (u := 3) (ty := 43) (by kernel_rfl) _ _ RV 43 _ _ _ rfl (setRow_heap _ _ _ _ _ _ HRV13.out) Tryd.underlying43 rfl HS2.out) rfl ?_
    refine ⟨f, pl, l, 0, by rw [HVAL.out], .inl ⟨HSOME.out, rfl⟩, ?_, (F0.out.then F13.out).setRow (fun hx => absurd hx (by have := HWR.out; omega)) _⟩
    exact ((G13.out.keep ((Fr.refl (OneB RV) w13).setRow (fun _ => rfl) _) (fun k hk => .inl (by simp only [OneB] at hk; have := HSW.out; omega))).low F0.out.size)
  · as_aux_lemma =>
    rw [decide_eq_false hright]
    have hnone : getY b = none := by rw [HGD.out, if_neg (fun hx => hright hx.2.2)]
    have HNONE := Lib.hid hnone
    clear hnone HGD HDD
    go_wp2_with (first | (with_reducible refine held_store (ty := 43) ?_) | fail)
    unfold Held
    refine wpList_store_row rfl 43 _ _ rfl RV #[.int .u8 0, .int .i64 0, .int .i64 0, .int .i64 0, .int .i64 0, .int .i64 0, .string ⟨#[]⟩, .slice none 0 0, .int .i64 0, .int .i64 0, .int .i64 0, .int .i64 0, .int .i64 0, .int .i64 0, .int .i64 0, .int .i64 0, .int .i64 0, .int .i64 0, .slice none 0 0, .int .i64 0, .slice none 0 0, .slice none 0 0] ?_ ?_ _ _ HRV13.out rsize22 rfl (by simp [Value.oneCell']) ?_
    · rfl
    · rfl
    go_wp2
    refine bodyPost_ret (v := .tuple #[.agg #[.int .u8 0, .int .i64 0, .int .i64 0, .int .i64 0, .int .i64 0, .int .i64 0, .string ⟨#[]⟩, .slice none 0 0, .int .i64 0, .int .i64 0, .int .i64 0, .int .i64 0, .int .i64 0, .int .i64 0, .int .i64 0, .int .i64 0, .int .i64 0, .int .i64 0, .slice none 0 0, .int .i64 0, .slice none 0 0, .slice none 0 0], .int .i64 4]) (results_row_tmp (fn := Tryd.f23) (p := 2) (u := 3) (ty := 43) (by kernel_rfl) _ _ RV 43 _ _ _ rfl (setRow_heap _ _ _ _ _ _ HRV13.out) Tryd.underlying43 rfl (by kernel_rfl)) rfl ?_
    exact ⟨fy0, py0, [], 4, rfl, .inr ⟨HNONE.out, rfl, rfl, rfl, rfl⟩, GotY.none _ _, (F0.out.then F13.out).setRow (fun hx => absurd hx (by have := HWR.out; omega)) _⟩
end Go.Proofs.YtlckgkpgllhpbaaDoor
