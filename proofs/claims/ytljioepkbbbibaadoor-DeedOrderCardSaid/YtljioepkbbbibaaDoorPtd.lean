/-
  Ptd: path.Check: what it answers of any text.
-/
import Derived.Test.YtljioepkbbbibaaDoorPtc
namespace Go.Proofs.YtljioepkbbbibaaDoor
open Go.RowKit Go.Shelf
attribute [local go_sem] Oper.semAt_some

/-- A text is a right path. -/
def pchk (l : List UInt8) : Bool := match l with | [] => false | c :: t => c == 47 && (decide (l.length ≤ 200) && rp t)

theorem Fr.putObj {M : Nat → Prop} {a w : World} (h : Fr M a w) {r : Nat} (hr : a.heap.size ≤ r) (o : Obj) : Fr M a (w.putObj r o) :=
  ⟨h.os, h.tape, h.output, by simpa using h.size, fun k hk hm => (World.putObj_heap_other (by omega)).trans (h.block k hk hm)⟩
theorem PB.alloc {w W : World} {q : List UInt8} {L : Loop} (h : PB w q L W) (o : Obj) : PB w q L (W.alloc o) :=
  ⟨h.fr.alloc o, (Boxed.alloc h.res o : Boxed _ _ _ _), (Boxed.alloc h.box o : Boxed _ _ _ _), (Below.heap_alloc W o _ (Lib.lt_of_heap h.dfr)).trans h.dfr, (Below.heap_alloc W o _ (Lib.lt_of_heap h.lp)).trans h.lp⟩
theorem PB.put {w W : World} {q : List UInt8} {L : Loop} (h : PB w q L W) (L' : Loop) : PB w q L' (W.putObj (w.heap.size + 3) (.loop L')) :=
  ⟨h.fr.putObj (by omega) _, (World.putObj_heap_other (by omega)).trans h.res, (World.putObj_heap_other (by omega)).trans h.box, (World.putObj_heap_other (by omega)).trans h.dfr, World.putObj_heap_same (Lib.lt_of_heap h.lp)⟩
theorem PB.setRes {w W : World} {q : List UInt8} {L : Loop} (h : PB w q L W) : PB w q L (W.setCell ⟨w.heap.size, 0, none⟩ (.bool false)) :=
  ⟨h.fr.setCell (fun hx => by simp at hx) _, (Boxed.set _ h.res : Boxed _ _ _ _), (Below.heap_setCell W ⟨w.heap.size, 0, none⟩ _ _ (by simp)).trans h.box, (Below.heap_setCell W ⟨w.heap.size, 0, none⟩ _ _ (by simp)).trans h.dfr, (Below.heap_setCell W ⟨w.heap.size, 0, none⟩ _ _ (by simp)).trans h.lp⟩
theorem PB.resCell {w W : World} {q : List UInt8} {L : Loop} (h : PB w q L W) : W.cell? ⟨w.heap.size, 0, none⟩ = some (.bool false) ∧ W.frozen? ⟨w.heap.size, 0, none⟩ = false := by
  have := h.res
  exact ⟨by simp [World.cell?, this], by simp [World.frozen?, this]⟩

set_option maxHeartbeats 1000000 in
theorem pparts_calls (s : ByteArray) (w : World) :
    Calls Tryd.prog 89 #[.string s] w fun e w' => e = .returned (.func (.func 99) #[] #[.pointer (some ⟨w.heap.size, 0, none⟩)]) ∧ w' = w.alloc (.cells #[.string s] 9) := by
  go_enter Tryd.func89, Tryd.ntmps89
  go_wp2
  go_ret
  exact ⟨rfl, rfl⟩

theorem by47 {c : UInt8} (hc : ¬ c = 47) : ¬ (c.toNat : Int) = 47 := fun h => hc (UInt8.toNat_inj.1 (by
  have h' : c.toNat = 47 := by omega
  rw [h']; rfl))
theorem pcheck_end (tmps : Array Value) (B : Nat) (W : World) (b : Bool) (ht : tmps[2]?.getD undef = .pointer (some ⟨B, 0, none⟩)) (hc : W.cell? ⟨B, 0, none⟩ = some (.bool b)) :
    (results Tryd.f64 tmps).run Tryd.prog W = .ok (.bool b) W := by
  simp [results, Tryd.f64, go_sem, ht, hc]

/-- How a round's body leaves. -/
def bodyQ (w : World) (q : List UInt8) (L : Loop) (s : List UInt8) : Exit → Act → World → Prop
  | .normal, _, W' => partOk s = true ∧ PB w q L W'
  | .ret, _, W' => partOk s = false ∧ PB w q L W'
  | _, _, _ => False

set_option maxRecDepth 100000 in
set_option maxHeartbeats 1000000 in
/-- A range over a path's parts, whose rounds go on just at a part. -/
theorem range_parts {Q : Exit → Act → World → Prop} {a : Act} {assign body : Code} {w w2 : World} {t : List UInt8} (htl : t.length ≤ 200) (a₁ : List UInt8 → Act)
    (ha : a.eval (.tmp 17) = .func (.func 99) #[] #[.pointer (some ⟨w.heap.size + 1, 0, none⟩)])
    (h1 : Boxed w2 w.heap.size 4 (.bool false)) (h2 : Boxed w2 (w.heap.size + 1) 9 (.string ⟨(47 :: t).toArray⟩)) (fr : Fr NoB w w2) (hsz : w2.heap.size = w.heap.size + 2)
    (hassign : ∀ (l : Nat) (s : List UInt8) (W : World) (K : Act → World → Prop), K (a₁ s) W → assign.wpIn (Fence.wide.inRound l) 1 Tryd.prog (Exit.then K (fun _ _ _ => False)) { tmps := ((#[18] : Array Tmp).zip #[.string ⟨s.toArray⟩]).foldl (fun t (p, v) => t.setIfInBounds p v) a.tmps, defers := [] } W)
    (hbody : ∀ (l : Nat) (s q : List UInt8) (L : Loop) (W : World), PB w q L W → body.wpIn (Fence.wide.inRound l) 1 Tryd.prog (bodyQ w q L s) (a₁ s) W)
    (hdone : ∀ q L W, rp t = true → PB w q L W → Q .normal { a with defers := { target := .collected (w.heap.size + 2), args := #[] } :: a.defers } W)
    (hstop : ∀ q L W, rp t = false → PB w q L W → Code.ret.wpIn Fence.wide 3 Tryd.prog Q { a with defers := { target := .collected (w.heap.size + 2), args := #[] } :: a.defers } W) :
    (Code.rangeFunc (.tmp 17) #[18] assign body).wpIn Fence.wide 3 Tryd.prog Q a w2 := by
  refine wpIn_rangeFunc ?_
  intro fn hfn
  obtain ⟨rec, hrec⟩ : ∃ rec : LoopState → Option Code → Loop, rec = fun st pe => { state := st, pending := pe, fn, tmps := a.tmps, params := #[18], assign, body, defers := w.heap.size + 2 } := ⟨_, rfl⟩
  have he : (Instr.enterLoop fn a.tmps #[18] assign body Fence.wide.round).run Tryd.prog w2 = .ok (w.heap.size + 3, [{ target := .collected (w.heap.size + 2), args := #[] }]) ((w2.alloc (.deferred (some []))).alloc (.loop (rec .ready none))) := by
    have h := run_enterLoop_outer (P := Tryd.prog) (w := w2) fn a.tmps #[18] assign body
    rw [hsz] at h
    rw [hrec]
    exact h
  have hp : PB w (47 :: t) (rec .ready none) ((w2.alloc (.deferred (some []))).alloc (.loop (rec .ready none))) := by
    refine ⟨(fr.alloc _).alloc _, ((h1.alloc _).alloc _ : Boxed _ _ _ _), ((h2.alloc _).alloc _ : Boxed _ _ _ _), ?_, ?_⟩
    · have := heap_alloc_new w2 (.deferred (some []))
      rw [hsz] at this
      exact (Below.heap_alloc _ _ _ (by simp [hsz])).trans this
    · have := heap_alloc_new (w2.alloc (.deferred (some []))) (.loop (rec .ready none))
      rw [World.size_alloc, hsz] at this
      exact this
  generalize (w2.alloc (.deferred (some []))).alloc (.loop (rec .ready none)) = W1 at he hp
  have eg : ∀ args w, (callFunc 99 args).run Tryd.prog w = .ok (.enter 99 args) w := enters_of Tryd.func99 (by kernel_rfl) rfl
  refine ⟨w.heap.size + 3, [{ target := .collected (w.heap.size + 2), args := #[] }], W1, { target := .fn (.func 99) #[.pointer (some ⟨w.heap.size + 1, 0, none⟩)], args := #[.func (.yield (w.heap.size + 3)) #[] #[]] }, W1, 99,
    #[.func (.yield (w.heap.size + 3)) #[] #[]] ++ #[.pointer (some ⟨w.heap.size + 1, 0, none⟩)], W1, he, ?_, (fun _ _ => trivial), ?_, (fun h => by cases h), ?_⟩
  · simp only [resolve, ha]
    simp [go_sem]
  · simp [invoke, go_sem, eg]
  · refine (parts1_in 2 w W1 t rec htl ?_ hp).mono ?_
    · intro W q s hq
      have hy := run_yield (P := Tryd.prog) (args := #[.string ⟨s.toArray⟩]) hq.lp (by rw [hrec]; rfl)
      rw [hrec] at hy
      refine ⟨fn, _, assign, body, hy, roundIn_of_wpIn hfn ?_⟩
      refine hassign _ s W _ ?_
      refine ⟨_, run_beginRound hq.lp (by rw [hrec]), ?_⟩
      refine wpIn_mono (hbody _ s q _ _ (hq.put _)) ?_
      intro e a3 W3 hp3
      cases e with
      | normal =>
        have hr := run_endRound (P := Tryd.prog) none hp3.2.lp
        exact ⟨_, _, hr, .inl ⟨hp3.1, rfl, by have := hp3.2.put (rec .ready none); rw [hrec] at this ⊢; exact this⟩⟩
      | ret =>
        have hr := run_endRound (P := Tryd.prog) (some .ret) hp3.2.lp
        exact ⟨_, _, hr, .inr ⟨hp3.1, rfl, by have := hp3.2.put (rec .done (some .ret)); rw [hrec] at this ⊢; exact this⟩⟩
      | exit id => exact hp3.elim
      | goto t => exact hp3.elim
      | panic ch => exact hp3.elim
      | outgrown => exact hp3.elim
    · rintro e W2 ⟨⟨v, rfl⟩, ⟨ht, q, hq⟩ | ⟨ht, q, hq⟩⟩
      · have hr := run_endLoop (P := Tryd.prog) hq.lp (by rw [hrec]; simp)
        rw [hrec] at hr
        exact ⟨none, _, hr, hdone q _ _ ht (hq.put _)⟩
      · have hr := run_endLoop (P := Tryd.prog) hq.lp (by rw [hrec]; simp)
        rw [hrec] at hr
        exact ⟨some .ret, _, hr, hstop q _ _ ht (hq.put _)⟩

set_option maxRecDepth 100000 in
set_option maxHeartbeats 4000000 in
theorem pcheck_calls (l : List UInt8) (w : World) (hl : l.length ≤ 140737488400000) :
    Calls Tryd.prog 64 #[.string ⟨l.toArray⟩] w fun e w' => e = .returned (.bool (pchk l)) ∧ Fr NoB w w' := by
  refine (callsIn_wide (n := 3)).1 ?_
  refine callsIn_of_wp_marks Tryd.func64 rfl trivial ?_ rfl
  simp only [Tryd.ntmps64, List.size_toArray, List.length_cons, List.length_nil, Nat.reduceAdd, Nat.reduceSub, Array.replicate_succ, Array.replicate_zero, List.push_toArray, List.append_toArray, List.nil_append, List.cons_append]
  have h1 := Boxed.new w 4 (.bool false)
  have hc1 := h1.cell
  have hf1 := h1.frozen
  have fr1 := (Fr.refl NoB w).alloc (.cells #[.bool false] 4)
  generalize hw1 : w.alloc (.cells #[.bool false] 4) = w1 at h1 hc1 hf1 fr1
  have hsz1 : w1.heap.size = w.heap.size + 1 := by rw [← hw1]; simp
  have hc2 := (Boxed.set (.bool false) h1).cell
  have fr2 := fr1.setCell (p := ⟨w.heap.size, 0, none⟩) (fun hx => by simp at hx) (.bool false)
  have hend := fun tmps ht => pcheck_end tmps w.heap.size _ false ht hc2
  rcases l with _ | ⟨c, t⟩
  · gi_wp2
    exact ⟨.bool false, hend _ rfl, rfl, fr2⟩
  have hg : ∀ h, (ByteArray.mk (c :: t).toArray)[0]'h = c := fun _ => rfl
  by_cases hc47 : c = 47
  rotate_left
  · have hcc : ¬ (c.toNat : Int) = 47 := by47 hc47
    have hck : pchk (c :: t) = false := by unfold pchk; simp [hc47]
    rw [hck]
    gi_wp2
    exact ⟨.bool false, hend _ rfl, rfl, fr2⟩
  subst hc47
  by_cases hlt : 200 < (47 :: t).length
  · have hll : 200 < (t.length : Int) + 1 := by simp at hlt; omega
    have hck : pchk (47 :: t) = false := by
      unfold pchk
      simp only [Bool.and_eq_false_iff, decide_eq_false_iff_not]
      exact .inr (.inl (by omega))
    rw [hck]
    gi_wp2
    exact ⟨.bool false, hend _ rfl, rfl, fr2⟩
  have hll : (t.length : Int) + 1 ≤ 200 := by simp at hlt; omega
  have htl : t.length ≤ 200 := by omega
  have hck : pchk (47 :: t) = rp t := by
    unfold pchk
    simp [show t.length + 1 ≤ 200 by omega]
  rw [hck]
  clear hck hlt hl hend fr2 hc2
  gi_wp2_with (refine ⟨trivial, ?_⟩; gi_at_call 89; refine (callsIn_wide.2 (pparts_calls _ _)).mono ?_; rintro e w' ⟨rfl, rfl⟩)
  have h2 := Boxed.new w1 9 (.string (ByteArray.mk (47 :: t).toArray))
  have h1b := h1.alloc (.cells #[.string (ByteArray.mk (47 :: t).toArray)] 9)
  have fr2 := fr1.alloc (.cells #[.string (ByteArray.mk (47 :: t).toArray)] 9)
  rw [hsz1] at h2
  generalize hw2 : w1.alloc (.cells #[.string (ByteArray.mk (47 :: t).toArray)] 9) = w2 at h2 h1b fr2
  have hsz2 : w2.heap.size = w.heap.size + 2 := by rw [← hw2]; simp [hsz1]
  clear hw2 hw1 h1 hc1 hf1 fr1 hsz1 w1
  refine range_parts htl (fun s => { tmps := #[.string ⟨(47 :: t).toArray⟩, undef, .pointer (some ⟨w.heap.size, 0, none⟩), .string ⟨s.toArray⟩, .string ⟨(47 :: t).toArray⟩, .bool false, .bool false, .string ⟨(47 :: t).toArray⟩, .int .u8 47, .bool false, .bool false, .bool false, .string ⟨(47 :: t).toArray⟩, .int .i64 ((t.length : Int) + 1), .bool (decide (200 < (t.length : Int) + 1)), .bool (decide (200 < (t.length : Int) + 1)), .string ⟨(47 :: t).toArray⟩, .func (.func 99) #[] #[.pointer (some ⟨w.heap.size + 1, 0, none⟩)], .string ⟨s.toArray⟩, undef, undef, undef], defers := [] }) rfl h1b h2 fr2 hsz2 ?assign ?body ?done ?stop
  case assign =>
    intro l s W K hK
    gi_wp2
    exact hK
  case body =>
    intro l s q L W hp
    have hc := hp.resCell.1
    have hf := hp.resCell.2
    gi_wp2_with (refine ⟨trivial, ?_⟩; gi_at_call 90; refine (CallsIn.inRound l (callsIn_wide.2 (part_calls s _))).mono ?_; rintro e w' ⟨rfl, pos, hw'⟩; have hp2 : PB w q L w' := (by rw [hw']; exact hp.alloc _); clear hw'; have hc2 := hp2.resCell.1; have hf2 := hp2.resCell.2)
    · rename_i hno
      exact ⟨by simpa using hno, hp2.setRes⟩
    · rename_i hno
      exact ⟨by simpa using hno, hp2⟩
  case done =>
    intro q L W ht hp
    have hc := hp.resCell.1
    have hf := hp.resCell.2
    gi_wp2
    have hK := (Below.heap_setCell W ⟨w.heap.size, 0, none⟩ (.bool true) (w.heap.size + 2) (by simp)).trans hp.dfr
    refine ⟨by simp, .inl ⟨_, _, rfl, run_takeDeferred hK, ?_⟩⟩
    have hb : Boxed ((W.setCell ⟨w.heap.size, 0, none⟩ (.bool true)).putObj (w.heap.size + 2) (.deferred none)) w.heap.size 4 (.bool true) := (World.putObj_heap_other (by omega)).trans (Boxed.set (.bool true) hp.res : Boxed _ _ _ _)
    exact ⟨.bool true, pcheck_end _ w.heap.size _ true rfl hb.cell, by rw [ht], (hp.fr.setCell (fun hx => by simp at hx) _).putObj (by omega) _⟩
  case stop =>
    intro q L W ht hp
    gi_wp2
    refine ⟨by simp, .inl ⟨_, _, rfl, run_takeDeferred hp.dfr, ?_⟩⟩
    have hb : Boxed (W.putObj (w.heap.size + 2) (.deferred none)) w.heap.size 4 (.bool false) := (World.putObj_heap_other (by omega)).trans hp.res
    exact ⟨.bool false, pcheck_end _ w.heap.size _ false rfl hb.cell, by rw [ht], hp.fr.putObj (by omega) _⟩
end Go.Proofs.YtljioepkbbbibaaDoor
