/-
  Sgm: Sgf, Sgr, Sgq, Sgm.
-/
import Derived.Test.YtmlmbahimklfiaaGreatDoorFrn
import Derived.Test.YtmlmbahimklfiaaGreatDoorSgh
import Derived.RangeFuncBound
import Derived.RangeFuncCalls
import Derived.RangeFuncLeaves
import Derived.RangeFuncNested
import Derived.Shelf.Abstract
import Derived.Shelf.RegionOpen
import Derived.WalkKit
import Derived.OwnWalkIn
import Derived.TacticsInMore
import Derived.LoopNIn
import Derived.LoopIn
import Derived.Test.YtmlmbahimklfiaaGreatDoorPtd
import Derived.Deep.RegionHeld3
import Derived.Test.YtmlmbahimklfiaaGreatDoorSgb
import Derived.Test.YtmlmbahimklfiaaGreatDoorDev
/- Sgf -/
namespace Go.Proofs.YtmlmbahimklfiaaGreatDoor
open Go.RowKit Go.Shelf
attribute [local go_sem] Oper.semAt_some

/-- Where a scan stands: its own state, the box of the bytes that are left, the loop's record. -/
structure FB (X : List De → World → Prop) (B R lo hi : Nat) (q : List UInt8) (ds : List De) (L : Loop) (W : World) : Prop where
  x : X ds W
  box : ∃ A c, W.heap[B]? = some (.cells #[.slice A q.length c] 24 (0, 0)) ∧ q.length ≤ c ∧ c ≤ maxLen ∧ Rd W lo hi A q
  lp : W.heap[R]? = some (.loop L)
  hb : hi ≤ B ∧ B ≠ R ∧ hi ≤ R
theorem lastZ_snoc (ds : List De) (d : De) : ∀ a, lastZ a (ds ++ [d]) = d.1.z := by
  induction ds with
  | nil => intro a; rfl
  | cons e l ih => intro a; exact ih _
/-- A scan that has gone by these deeds. -/
def Sc (b : List UInt8) (ds : List De) (q : List UInt8) : Prop := ∃ m, q.length < m ∧ scan b = ds ++ scanF m (lastZ 0 ds) q
theorem Sc.bound {b q x : List UInt8} {ds : List De} {d : De} (h : Sc b ds q) (hu : unframe q = some x) (hg : getD x = some d) (hz : ¬ d.1.z ≤ lastZ 0 ds) : (segB ds).length + (8 + x.length) ≤ b.length ∧ 9 * (ds.length + 1) ≤ b.length ∧ (segB (ds ++ [d])).length = (segB ds).length + (8 + x.length) := by
  obtain ⟨m, hm, hs⟩ := h
  obtain ⟨m2, rfl⟩ : ∃ m2, m = m2 + 1 := ⟨m - 1, by omega⟩
  rw [scanF_one hu hg hz] at hs
  have hl := segB_le b
  have e : (segB (ds ++ [d])).length = (segB ds).length + (8 + x.length) := by
    rw [segB_append, List.length_append, segB_cons, List.length_append, frameB_len, (getD_rightD hg).1]
    simp [segB]
  have e2 : (segB (scan b)).length = (segB (ds ++ [d])).length + (segB (scanF m2 d.1.z (q.drop (8 + x.length)))).length := by
    rw [hs, ← List.length_append, ← segB_append, List.append_assoc, List.singleton_append]
  have c : ∀ l : List De, 9 * l.length ≤ (segB l).length := fun l => by
    induction l with
    | nil => simp
    | cons d l ih => rw [segB_cons, List.length_append, List.length_cons]; have := segN_pos d; unfold segN at this; omega
  have := c (ds ++ [d])
  rw [List.length_append, List.length_singleton] at this
  exact ⟨by omega, by omega, e⟩
/-- What a scan's own state bears. -/
structure Bears (X : List De → World → Prop) (B : Nat) : Prop where
  fr : ∀ ds W W', X ds W → Fr NoB W W' → X ds W'
  set : ∀ ds W u, X ds W → X ds (W.setCell ⟨B, 0, none⟩ u)
theorem FB.fr {X : List De → World → Prop} {B R lo hi : Nat} {q : List UInt8} {ds : List De} {L : Loop} {W W' : World} (h : FB X B R lo hi q ds L W) (hX : Bears X B) (f : Fr NoB W W') : FB X B R lo hi q ds L W' := by
  obtain ⟨A, c, h1, h2, h3, h4⟩ := h.box
  exact ⟨hX.fr _ _ _ h.x f, ⟨A, c, f.at_ h1 (fun x => x), h2, h3, h4.fr f (Nat.le_of_lt (Nat.lt_of_le_of_lt h.hb.1 (Lib.lt_of_heap h1))) (fun _ _ _ x => x)⟩, f.at_ h.lp (fun x => x), h.hb⟩
/-- How many bytes are left. -/
def left (W : World) (B : Nat) : Nat := match W.heap[B]? with | some (.cells #[.slice _ n _] _ _) => n | _ => 0
theorem FB.left {X : List De → World → Prop} {B R lo hi : Nat} {q : List UInt8} {ds : List De} {L : Loop} {W : World} (h : FB X B R lo hi q ds L W) : left W B = q.length := by
  obtain ⟨A, c, h1, -⟩ := h.box
  unfold Go.Proofs.YtmlmbahimklfiaaGreatDoor.left
  rw [h1]
  rfl
theorem FB.cell {X : List De → World → Prop} {B R lo hi : Nat} {q : List UInt8} {ds : List De} {L : Loop} {W : World} (h : FB X B R lo hi q ds L W) : ∃ A c, q.length ≤ c ∧ c ≤ maxLen ∧ Rd W lo hi A q ∧ W.cell? ⟨B, 0, none⟩ = some (.slice A q.length c) ∧ W.frozen? ⟨B, 0, none⟩ = false := by
  obtain ⟨A, c, h1, h2, h3, h4⟩ := h.box
  exact ⟨A, c, h2, h3, h4, (cells_of h1 0).1, (cells_of h1 0).2⟩
theorem FB.cut {X : List De → World → Prop} {B R lo hi : Nat} {q : List UInt8} {ds : List De} {L : Loop} {W : World} (h : FB X B R lo hi q ds L W) (hX : Bears X B) {A : Option Addr} {c : Nat} (q' : List UInt8) (hl : q'.length ≤ c) (hc : c ≤ maxLen) (hr : Rd W lo hi A q') : FB X B R lo hi q' ds L (W.setCell ⟨B, 0, none⟩ (.slice A q'.length c)) := by
  obtain ⟨A0, c0, h1, -, -, -⟩ := h.box
  have f : Fr (OneB B) W (W.setCell ⟨B, 0, none⟩ (.slice A q'.length c)) := (Fr.refl (OneB B) W).setCell (p := ⟨B, 0, none⟩) (fun _ => rfl) _
  exact ⟨hX.set _ _ _ h.x, ⟨A, c, by rw [heap_set h1]; rfl, hl, hc, hr.fr f (Nat.le_of_lt (Nat.lt_of_le_of_lt h.hb.1 (Lib.lt_of_heap h1))) (fun k _ hk hx => by simp only [OneB] at hx; have := h.hb.1; omega)⟩, f.at_ h.lp (fun hx => h.hb.2.1 hx.symm), h.hb⟩

set_option maxRecDepth 100000 in
set_option maxHeartbeats 4000000 in
theorem frames1_in (n : Nat) (X : List De → World → Prop) (B R lo hi : Nat) (hX : Bears X B) (W : World) (b : List UInt8) (hb : b.length ≤ 140737488355328) (rec : LoopState → Option Code → Loop)
    (hY : ∀ W q ds x A c lo2 hi2, FB X B R lo hi q ds (rec .ready none) W → Sc b ds q → unframe q = some x → x.length ≤ b.length → Rd W lo2 hi2 A x → hi2 ≤ W.heap.size → R < lo2 → YieldAt Fence.wide (n - 1) Tryz.prog R #[.slice A x.length c, .int .i64 (8 + (x.length : Int))] W fun e W' => (e = .returned (.bool true) ∧ ∃ d, getD x = some d ∧ ¬ d.1.z ≤ lastZ 0 ds ∧ FB X B R lo hi q (ds ++ [d]) (rec .ready none) W') ∨ (e = .returned (.bool false) ∧ (getD x = none ∨ ∃ d, getD x = some d ∧ d.1.z ≤ lastZ 0 ds) ∧ FB X B R lo hi q ds (rec .done (some (.exit 0))) W'))
    (h0 : FB X B R lo hi b [] (rec .ready none) W) :
    CallsIn Fence.wide n Tryz.prog 62 #[.func (.yield R) #[] #[], .pointer (some ⟨B, 0, none⟩)] W fun e W' => (∃ v, e = .returned v) ∧ ∃ q, FB X B R lo hi q (scan b) (rec .ready none) W' ∨ FB X B R lo hi q (scan b) (rec .done (some (.exit 0))) W' := by
  refine callsIn_of_wp Tryz.func62 rfl trivial ?_ rfl
  simp only [Tryz.ntmps62, List.size_toArray, List.length_cons, List.length_nil, Nat.reduceAdd, Nat.reduceSub, Array.replicate_succ, Array.replicate_zero, List.push_toArray, List.append_toArray, List.nil_append, List.cons_append]
  gi_wp2
  gi_loopw [] (fun W' => ∃ q ds m, q.length ≤ b.length ∧ q.length < m ∧ scan b = ds ++ scanF m (lastZ 0 ds) q ∧ FB X B R lo hi q ds (rec .ready none) W') (fun W' => left W' B)
  case atStart => exact ⟨b, [], b.length + 1, Nat.le_refl _, by omega, rfl, h0⟩
  case round =>
    obtain ⟨q, ds, m, hqb, hm, hs, hp⟩ := hrel
    obtain ⟨A, c, h1, h2, h3, hc, hz⟩ := hp.cell
    have hcall := unframe_calls A q c lo hi wr h3 (by obtain ⟨_, _, hh, _⟩ := hp.box; exact Nat.le_of_lt (Nat.lt_of_le_of_lt hp.hb.1 (Lib.lt_of_heap hh))) h1 h2 (by omega)
    cases hu : unframe q with
    | none =>
      have hcall2 : Calls Tryz.prog 63 #[.slice A q.length c] wr fun e W' => e = .returned (.tuple #[.slice none 0 0, .int .i64 0, .int .i64 4]) ∧ Fr NoB wr W' := hcall.mono fun e W' h => by
        unfold Unframed at h
        rw [hu] at h
        exact h
      gi_wp2_with (refine ⟨trivial, (fun h => by cases h), ?_⟩; gi_at_call 63; refine (callsIn_wide.2 hcall2).mono ?_; rintro e w' ⟨rfl, f⟩)
      all_goals
        refine ⟨(fun _ h => by cases h), ?_⟩
        gi_wp2
        refine bodyPost_ret (results_none rfl _ _ _) rfl ?_
        exact ⟨⟨_, rfl⟩, q, .inl (by rw [hs, scanF_none hu, List.append_nil]; exact hp.fr hX f)⟩
    | some x =>
      have hxl := unframe_len hu
      have hcall2 : Calls Tryz.prog 63 #[.slice A q.length c] wr fun e W' => ∃ A2 c2, e = .returned (.tuple #[.slice A2 x.length c2, .int .i64 (8 + (x.length : Int)), .int .i64 0]) ∧ Rd W' wr.heap.size W'.heap.size A2 x ∧ Fr NoB wr W' := hcall.mono fun e W' h => by
        unfold Unframed at h
        rw [hu] at h
        obtain ⟨⟨v, rfl, ho⟩, hf⟩ := h
        obtain ⟨A2, c2, rfl, -, -⟩ := own_form ho
        exact ⟨A2, c2, by push_cast; rfl, own_rd ho, hf⟩
      have hn1 : (8 + (x.length : Int)) ≤ (q.length : Int) := by omega
      have hn0 : (0 : Int) ≤ 8 + (x.length : Int) := by omega
      gi_wp2_with (first | (refine ⟨trivial, (fun h => by cases h), ?_⟩; gi_at_call 63; refine (callsIn_wide.2 hcall2).mono ?_; rintro e w' ⟨A2, c2, rfl, hr2, f⟩; obtain ⟨fn, tmps, assign, body, hy, hR⟩ := hY w' q ds x A2 c2 _ _ (hp.fr hX f) ⟨m, hm, hs⟩ hu (by omega) hr2 (Nat.le_refl _) (Lib.lt_of_heap hp.lp)) | (refine ⟨(fun h => by cases h), ?_⟩; refine hR.mono ?_; rintro e W' (⟨rfl, d, hg, hz2, hp'⟩ | ⟨rfl, hg, hp'⟩); all_goals (obtain ⟨A3, c3, k1, k2, k3, kc, kz⟩ := hp'.cell; have k1i : (q.length : Int) ≤ (c3 : Int) := by omega)))
      all_goals first
        | (refine bodyPost_ret (results_none rfl _ _ _) rfl ?_
           refine ⟨⟨_, rfl⟩, q, .inr ?_⟩
           have e : scan b = ds := by
             rw [hs]
             rcases hg with hg | ⟨d, hg, hz2⟩
             · rw [scanF_nog hu hg, List.append_nil]
             · rw [scanF_le hu hg hz2, List.append_nil]
           rw [e]
           exact hp')
        | (have hdl : (q.drop (8 + x.length)).length = q.length - (8 + x.length) := List.length_drop ..
           have hcut := hp'.cut hX (q.drop (8 + x.length)) (A := if q.length = 8 + x.length then A3 else A3.map (·.add (8 + x.length))) (c := q.length - (8 + x.length)) (by omega) (by omega) (k3.drop (n := 8 + x.length) (c := q.length) hxl (Nat.le_refl _))
           rw [hdl] at hcut
           obtain ⟨m2, rfl⟩ : ∃ m2, m = m2 + 1 := ⟨m - 1, by omega⟩
           refine ⟨⟨q.drop (8 + x.length), ds ++ [d], m2, by omega, by omega, ?_, hcut⟩, ?_⟩
           · rw [hs, scanF_one hu hg (by omega), lastZ_snoc, List.append_assoc, List.singleton_append]
           · have hl1 := hcut.left
             have hl2 := hp.left
             rw [hl1, hl2]
             omega)
        | trace_state
end Go.Proofs.YtmlmbahimklfiaaGreatDoor

/- Sgr -/
namespace Go.Proofs.YtmlmbahimklfiaaGreatDoor
open Go.RowKit Go.Shelf
attribute [local go_sem] Oper.semAt_some

theorem fr_putObj (W : World) (R : Nat) (o : Obj) : Fr (OneB R) W (W.putObj R o) :=
  ⟨(Fr.refl (OneB R) W).os, (Fr.refl (OneB R) W).tape, (Fr.refl (OneB R) W).output, by simp, fun k hk hm => World.putObj_heap_other (fun h => hm h)⟩
/-- What a scan's own state bears, of the loop's record too. -/
structure Bears2 (X : List De → World → Prop) (B R : Nat) : Prop extends Bears X B where
  put : ∀ ds W L, X ds W → X ds (W.putObj R (.loop L))
theorem FB.put {X : List De → World → Prop} {B R lo hi : Nat} {q : List UInt8} {ds : List De} {L : Loop} {W : World} (h : FB X B R lo hi q ds L W) (hX : Bears2 X B R) (L' : Loop) : FB X B R lo hi q ds L' (W.putObj R (.loop L')) := by
  obtain ⟨A, c, h1, h2, h3, h4⟩ := h.box
  have f := fr_putObj W R (.loop L')
  have hlt := Lib.lt_of_heap h1
  exact ⟨hX.put _ _ _ h.x, ⟨A, c, (World.putObj_heap_other h.hb.2.1).trans h1, h2, h3, h4.fr f (by have := h.hb.1; omega) (fun k _ hk hx => by simp only [OneB] at hx; have := h.hb.2.2; omega)⟩, World.putObj_heap_same (Lib.lt_of_heap h.lp), h.hb⟩
/-- How a round's body leaves. -/
def bodyS (X : List De → World → Prop) (B R lo hi : Nat) (q : List UInt8) (ds : List De) (L : Loop) (x : List UInt8) : Exit → Act → World → Prop
  | .normal, _, W' => ∃ d, getD x = some d ∧ ¬ d.1.z ≤ lastZ 0 ds ∧ FB X B R lo hi q (ds ++ [d]) L W'
  | .exit id, _, W' => id = 0 ∧ (getD x = none ∨ ∃ d, getD x = some d ∧ d.1.z ≤ lastZ 0 ds) ∧ FB X B R lo hi q ds L W'
  | _, _, _ => False

set_option maxRecDepth 100000 in
set_option maxHeartbeats 1000000 in
/-- A range over frames. -/
theorem range_scan {Q : Exit → Act → World → Prop} {a : Act} {assign body : Code} {n : Nat} {w2 : World} {b : List UInt8} {lo hi : Nat} (hb : b.length ≤ 140737488355328) (X : List De → World → Prop) (hX : Bears2 X (n + 4) (n + 6)) (hhi : hi ≤ n + 4) (a₁ : Value → Value → Act)
    (ha : a.eval (.tmp 14) = .func (.func 62) #[] #[.pointer (some ⟨n + 4, 0, none⟩)]) (hsz : w2.heap.size = n + 5)
    (hx0 : ∀ L, X [] ((w2.alloc (.deferred (some []))).alloc (.loop L))) (hbx : ∃ A c, w2.heap[n + 4]? = some (.cells #[.slice A b.length c] 24 (0, 0)) ∧ b.length ≤ c ∧ c ≤ maxLen ∧ Rd w2 lo hi A b)
    (hassign : ∀ (l : Nat) (u v : Value) (W : World) (K : Act → World → Prop), K (a₁ u v) W → assign.wpIn (Fence.wide.inRound l) 1 Tryz.prog (Exit.then K (fun _ _ _ => False)) { tmps := ((#[15, 16] : Array Tmp).zip #[u, v]).foldl (fun t (p, v) => t.setIfInBounds p v) a.tmps, defers := [] } W)
    (hbody : ∀ (l : Nat) (q : List UInt8) (ds : List De) (x : List UInt8) (A : Option Addr) (c lo2 hi2 : Nat) (L : Loop) (W : World), FB X (n + 4) (n + 6) lo hi q ds L W → Sc b ds q → unframe q = some x → x.length ≤ 140737488355328 → Rd W lo2 hi2 A x → hi2 ≤ W.heap.size → body.wpIn (Fence.wide.inRound l) 1 Tryz.prog (bodyS X (n + 4) (n + 6) lo hi q ds L x) (a₁ (.slice A x.length c) (.int .i64 (8 + (x.length : Int)))) W)
    (hdone : ∀ q L W, FB X (n + 4) (n + 6) lo hi q (scan b) L W → Q .normal { a with defers := { target := .collected (n + 5), args := #[] } :: a.defers } W)
    (hstop : ∀ q L W, FB X (n + 4) (n + 6) lo hi q (scan b) L W → (Code.exit 0).wpIn Fence.wide 3 Tryz.prog Q { a with defers := { target := .collected (n + 5), args := #[] } :: a.defers } W) :
    (Code.rangeFunc (.tmp 14) #[15, 16] assign body).wpIn Fence.wide 3 Tryz.prog Q a w2 := by
  refine wpIn_rangeFunc ?_
  intro fn hfn
  obtain ⟨rec, hrec⟩ : ∃ rec : LoopState → Option Code → Loop, rec = fun st pe => { state := st, pending := pe, fn, tmps := a.tmps, params := #[15, 16], assign, body, defers := n + 5 } := ⟨_, rfl⟩
  have he : (Instr.enterLoop fn a.tmps #[15, 16] assign body Fence.wide.round).run Tryz.prog w2 = .ok (n + 6, [{ target := .collected (n + 5), args := #[] }]) ((w2.alloc (.deferred (some []))).alloc (.loop (rec .ready none))) := by
    have h := run_enterLoop_outer (P := Tryz.prog) (w := w2) fn a.tmps #[15, 16] assign body
    rw [hsz] at h
    rw [hrec]
    exact h
  have hp : FB X (n + 4) (n + 6) lo hi b [] (rec .ready none) ((w2.alloc (.deferred (some []))).alloc (.loop (rec .ready none))) := by
    obtain ⟨A, c, h1, h2, h3, h4⟩ := hbx
    have f := ((Fr.refl NoB w2).alloc (.deferred (some []))).alloc (.loop (rec .ready none))
    refine ⟨hx0 _, ⟨A, c, f.at_ h1 (fun x => x), h2, h3, h4.fr f (by omega) (fun _ _ _ x => x)⟩, ?_, hhi, by omega, by omega⟩
    have := heap_alloc_new (w2.alloc (.deferred (some []))) (.loop (rec .ready none))
    rw [World.size_alloc, hsz] at this
    exact this
  generalize (w2.alloc (.deferred (some []))).alloc (.loop (rec .ready none)) = W1 at he hp
  have eg : ∀ args w, (callFunc 62 args).run Tryz.prog w = .ok (.enter 62 args) w := enters_of Tryz.func62 (by kernel_rfl) rfl
  refine ⟨n + 6, [{ target := .collected (n + 5), args := #[] }], W1, { target := .fn (.func 62) #[.pointer (some ⟨n + 4, 0, none⟩)], args := #[.func (.yield (n + 6)) #[] #[]] }, W1, 62,
    #[.func (.yield (n + 6)) #[] #[]] ++ #[.pointer (some ⟨n + 4, 0, none⟩)], W1, he, ?_, (fun _ _ => trivial), ?_, (fun h => by cases h), ?_⟩
  · simp only [resolve, ha]
    simp [go_sem]
  · simp [invoke, go_sem, eg]
  · refine (frames1_in 2 X (n + 4) (n + 6) lo hi hX.toBears W1 b hb rec ?_ hp).mono ?_
    · intro W q ds x A c lo2 hi2 hq hsc hu hxl hr2 hh2 hrl
      have hy := run_yield (P := Tryz.prog) (args := #[.slice A x.length c, .int .i64 (8 + (x.length : Int))]) hq.lp (by rw [hrec]; rfl)
      rw [hrec] at hy
      refine ⟨fn, _, assign, body, hy, roundIn_of_wpIn hfn ?_⟩
      refine hassign _ _ _ W _ ?_
      refine ⟨_, run_beginRound hq.lp (by rw [hrec]), ?_⟩
      refine wpIn_mono (hbody _ q ds x A c lo2 hi2 _ _ (hq.put hX _) hsc hu (by omega) (hr2.fr (fr_putObj W (n + 6) _) hh2 (fun k h1 h2 hx => by simp only [OneB] at hx; omega)) (by simpa using hh2)) ?_
      intro e a3 W3 hp3
      cases e with
      | normal =>
        obtain ⟨d, hg, hz, hp3⟩ := hp3
        have hr := run_endRound (P := Tryz.prog) none hp3.lp
        exact ⟨_, _, hr, .inl ⟨rfl, d, hg, hz, by have := hp3.put hX (rec .ready none); rw [hrec] at this ⊢; exact this⟩⟩
      | exit id =>
        obtain ⟨rfl, hg, hp3⟩ := hp3
        have hr := run_endRound (P := Tryz.prog) (some (.exit 0)) hp3.lp
        exact ⟨_, _, hr, .inr ⟨rfl, hg, by have := hp3.put hX (rec .done (some (.exit 0))); rw [hrec] at this ⊢; exact this⟩⟩
      | ret => exact hp3.elim
      | goto t => exact hp3.elim
      | panic ch => exact hp3.elim
      | outgrown => exact hp3.elim
    · rintro e W2 ⟨⟨v, rfl⟩, q, hq | hq⟩
      · have hr := run_endLoop (P := Tryz.prog) hq.lp (by rw [hrec]; simp)
        rw [hrec] at hr
        exact ⟨none, _, hr, hdone q _ _ (hq.put hX _)⟩
      · have hr := run_endLoop (P := Tryz.prog) hq.lp (by rw [hrec]; simp)
        rw [hrec] at hr
        exact ⟨some (.exit 0), _, hr, hstop q _ _ (hq.put hX _)⟩
end Go.Proofs.YtmlmbahimklfiaaGreatDoor

/- Sgq -/
namespace Go.Proofs.YtmlmbahimklfiaaGreatDoor
open Go.RowKit Go.Shelf

theorem wpOp_round {P : Program} {ops : Array Oper} {Q : Exit → Act → World → Prop} {l n i : Nat} {K : Act → World → Prop} {a : Act} {w : World} (hQ : ¬ LetsOut Q) (hd : ∀ (i : Nat) (o : Oper) (c : _), ops[i]? = some o → o.op ≠ .defer c) (h : wpOp P ops Q i K a w) : wpOpIn (Fence.wide.inRound l) n P ops Q i K a w := by
  unfold wpOp at h
  unfold wpOpIn
  cases ho : ops[i]? with
  | none => simpa only [ho] using h
  | some o =>
    simp only [ho] at h ⊢
    by_cases hw : Region.wanted o (yielded ops a.tmps) = true
    · simp only [hw, if_true] at h ⊢
      have h := h.resolve_right (fun hx => hQ hx.2)
      unfold Oper.wp at h
      unfold Oper.wpIn
      refine ⟨fun _ _ => trivial, ?_⟩
      have hs : o.semAt (Fence.wide.inRound l).round a.eval = execOp a.eval o := Oper.semAt_some l _ _ (fun c => hd i o c ho)
      rw [hs]
      generalize (execOp a.eval o).run P w = r at h ⊢
      cases r with
      | ok x w' =>
        cases x with
        | value v => exact h
        | skip => exact h
        | defer d => exact h
        | enter f args => exact ⟨fun hx => absurd hx (by simp [Fence.wide]), CallsIn.inRound l (callsIn_wide.2 h)⟩
        | row r args => exact ⟨fun hx => absurd hx (by simp [Fence.wide]), fun c cs _ => let ⟨v, w', hr, s⟩ := h c cs; ⟨v, w', hr, stepsIn_wide.2 s⟩⟩
        | _ => exact h.elim
      | halt x w' => cases x <;> exact h
    · simp only [hw] at h ⊢
      exact ⟨fun _ _ => trivial, h⟩
theorem wpOp_roundmono {P : Program} {ops : Array Oper} {Q : Exit → Act → World → Prop} {l n i : Nat} {K K' : Act → World → Prop} {a : Act} {w : World} (hQ : ¬ LetsOut Q) (hd : ∀ (i : Nat) (o : Oper) (c : _), ops[i]? = some o → o.op ≠ .defer c) (hK : ∀ a w, K a w → K' a w) (h : wpOp P ops Q i K a w) : wpOpIn (Fence.wide.inRound l) n P ops Q i K' a w := wpOpIn_mono hK (wpOp_round hQ hd h)
theorem wpAny_round {P : Program} {md : Region.Mode} {ops : Array Oper} {Q : Exit → Act → World → Prop} {l n : Nat} (hQ : ¬ LetsOut Q) (hd : ∀ (i : Nat) (o : Oper) (c : _), ops[i]? = some o → o.op ≠ .defer c) : ∀ (fuel : Nat) (listed : Array Bool) (a : Act) (w : World), wpAny P md ops Q fuel listed a w → wpAnyIn (Fence.wide.inRound l) n P md ops Q fuel listed a w
  | 0, _, _, _, h => h
  | fuel + 1, _, _, _, h => ⟨h.1, fun i hi => wpOp_roundmono hQ hd (fun a w => wpAny_round hQ hd fuel _ a w) (h.2 i hi)⟩
/-- Operation j waits for operation i (or there is none). -/
def waits (md : Region.Mode) (ops : Array Oper) (i j : Nat) : Bool := match ops[j]? with | none => true | some o => o.after.any fun e => Region.binds md e && e.on == i
/-- Whatever order is picked from here on; behind operation i the condition S i holds. -/
def wpAnyJ (P : Program) (md : Region.Mode) (ops : Array Oper) (Q : Exit → Act → World → Prop) (S : Nat → World → Prop) : Nat → Array Bool → Act → World → Prop
  | 0, listed, a, w => Region.ready md ops listed = [] ∧ Q .normal a w
  | fuel + 1, listed, a, w =>
    (Region.ready md ops listed = [] → Q .normal a w) ∧
    ∀ i ∈ Region.ready md ops listed, wpOp P ops Q i (fun a' w' => S i w' ∧ wpAnyJ P md ops Q S fuel (listed.setIfInBounds i true) a' w') a w
section
variable {P : Program} {ops : Array Oper} {Q : Exit → Act → World → Prop} {md : Region.Mode} {S : Nat → World → Prop}
theorem wpAny_of_J : ∀ (fuel : Nat) (listed : Array Bool) (a : Act) (w : World), wpAnyJ P md ops Q S fuel listed a w → wpAny P md ops Q fuel listed a w
  | 0, _, _, _, h => h
  | fuel + 1, _, _, _, h => ⟨h.1, fun i hi => wpOp_mono (fun a' w' h' => wpAny_of_J fuel _ a' w' h'.2) (h.2 i hi)⟩
/-- An operation that yields its value wherever C holds may be taken first, if C is held behind all that does not wait for it. -/
theorem J_first {i : Nat} {oi : Oper} {v : Value} {C : World → Prop} {listed0 : Array Bool} (hi : ops[i]? = some oi) (hs : Region.noSelect ops = true)
    (hQ : ∀ c a w, Q (.panic c) (a.put oi.dst v) w → Q (.panic c) a w) (hC : ∀ j w, listed0.getD j true = false → waits md ops i j = false → S j w → C w) (hSi : ∀ w, C w → S i w) :
    ∀ (fuel : Nat) (listed : Array Bool) (a : Act) (w : World), (∀ j, listed.getD j true = false → listed0.getD j true = false) → (∀ j oj, ops[j]? = some oj → j ≠ i → listed.getD j true = false → (∀ e ∈ oj.after, Region.binds md e = true → e.on ≠ i) → oi.apart ops oj = true) →
      i ∈ Region.ready md ops listed → YieldsIf P ops C oi v a → C w → wpAnyJ P md ops Q S fuel (listed.setIfInBounds i true) (a.put oi.dst v) w → wpAnyJ P md ops Q S (fuel + 1) listed a w
  | fuel, listed, a, w, hL, hf, hr, hy, hw, H => by
    refine ⟨fun h => (by rw [h] at hr; cases hr), fun j hj => ?_⟩
    by_cases hji : j = i
    · subst hji
      exact hy.wpOp hi hw ⟨hSi w hw, H⟩
    cases fuel with
    | zero =>
      have := ready_mono hj hji
      rw [H.1] at this
      cases this
    | succ fuel =>
      obtain ⟨hun, oj, hoj, hall⟩ := mem_ready.1 hj
      have hun0 := (mem_ready.1 hr).1
      have hno : ∀ e ∈ oj.after, Region.binds md e = true → e.on ≠ i := fun e he hb heq => by
        have h1 := hall e he hb
        rw [heq] at h1
        rcases Nat.lt_or_ge i listed.size with h' | h'
        · simp [h'] at hun0 h1; rw [hun0] at h1; cases h1
        · simp [Array.getElem?_eq_none h'] at h1
      have hwt : waits md ops i j = false := by
        unfold waits
        rw [hoj]
        simp only [Array.any_eq_false]
        intro x hx
        simp only [Bool.and_eq_true, beq_iff_eq, not_and]
        exact fun hb => hno _ (Array.getElem_mem hx) hb
      have h2 := wpOp_putIf hoj (hf j oj hoj hji hun hno) (fun cs b => Region.noSelect_spec hs i oi cs b hi) (fun cs b => Region.noSelect_spec hs j oj cs b hoj) hQ hy (H.2 j (ready_mono hj hji))
      refine wpOp_mono (fun a' w' h3 => ⟨h3.2.1, J_first hi hs hQ hC hSi fuel (listed.setIfInBounds j true) a' w' (fun k hk => hL k (by
        by_cases hjk : j = k
        · exact hjk ▸ hun
        · rwa [getD_set_ne true hjk] at hk)) (fun k ok hk hki hu hn => hf k ok hk hki ?_ hn) (ready_mono hr (Ne.symm hji)) h3.1 (hC j w' (hL j hun) hwt h3.2.1) ?_⟩) h2
      · by_cases hjk : j = k
        · exact hjk ▸ hun
        · rwa [getD_set_ne true hjk] at hu
      · rw [Array.setIfInBounds_comm _ _ hji]
        exact h3.2.2
theorem J_take {i : Nat} {oi : Oper} {v : Value} {fuel : Nat} {listed : Array Bool} {a : Act} {w : World} (C : World → Prop) (m : Nat → Bool) (hi : ops[i]? = some oi) (hs : Region.noSelect ops = true) (hf : Region.free md ops listed i = true) (hr : (Region.ready md ops listed).contains i = true)
    (hm : ((List.range ops.size).all fun j => listed.getD j true || (waits md ops i j || m j)) = true) (hQ : ∀ c a w, Q (.panic c) (a.put oi.dst v) w → Q (.panic c) a w) (hC : ∀ j w, m j = true → S j w → C w) (hSi : ∀ w, C w → S i w) (hw : C w) (hy : YieldsIf P ops C oi v a)
    (h : wpAnyJ P md ops Q S fuel (listed.setIfInBounds i true) (a.put oi.dst v) w) : wpAnyJ P md ops Q S (fuel + 1) listed a w := by
  refine J_first (listed0 := listed) hi hs hQ (fun j w hl hn hS => ?_) hSi fuel listed a w (fun _ h => h) (Region.free_spec hi hf) (by simpa using hr) hy hw h
  rcases Nat.lt_or_ge j ops.size with hj | hj
  · have := List.all_eq_true.1 hm j (List.mem_range.2 hj)
    rw [hl, hn, Bool.false_or, Bool.false_or] at this
    exact hC j w this hS
  · unfold waits at hn
    rw [Array.getElem?_eq_none hj] at hn
    cases hn
theorem J_all {rs : List Nat} {fuel : Nat} {listed : Array Bool} {a : Act} {w : World} (hr : Region.ready md ops listed = rs) (hne : rs ≠ [])
    (h : ∀ i ∈ rs, wpOp P ops Q i (fun a' w' => S i w' ∧ wpAnyJ P md ops Q S fuel (listed.setIfInBounds i true) a' w') a w) : wpAnyJ P md ops Q S (fuel + 1) listed a w :=
  ⟨fun h0 => absurd (hr ▸ h0) hne, hr ▸ h⟩
theorem J_one {i : Nat} {o : Oper} {K : Act → World → Prop} {a : Act} {w : World} (ho : ops[i]? = some o) (hg : o.guard = none) (h : o.wp P a w K Q) : wpOp P ops Q i K a w := by
  unfold wpOp
  rw [ho]
  simp only
  rw [if_pos (by simp [Region.wanted, hg])]
  exact .inl h
theorem J_done {listed : Array Bool} {a : Act} {w : World} (hr : Region.ready md ops listed = []) (h : Q .normal a w) : wpAnyJ P md ops Q S 0 listed a w := ⟨hr, h⟩
end
/-- A region that draws its order, in a round. -/
theorem wpIn_region_J {P : Program} {ops : Array Oper} {Q : Exit → Act → World → Prop} {l n : Nat} (S : Nat → World → Prop) {id : Nat} {a : Act} {w : World} (hm : P.follows .mixedOrders = true) (hQ : ¬ LetsOut Q) (hd : (ops.all fun o => match o.op with | .defer _ => false | _ => true) = true)
    (h : wpAnyJ P .any ops Q S ops.size (Array.replicate ops.size false) a w.drew) : (Code.region id ops true).wpIn (Fence.wide.inRound l) n P Q a w :=
  wpIn_region_any hm (wpAny_round hQ (fun i o c ho hc => by
    have := Array.all_eq_true_iff_forall_mem.1 hd o (Array.mem_of_getElem? ho)
    rw [hc] at this
    cases this) _ _ _ _ (wpAny_of_J _ _ _ _ h))
end Go.Proofs.YtmlmbahimklfiaaGreatDoor

/- Sgm -/
namespace Go.Proofs.YtmlmbahimklfiaaGreatDoor
open Go.RowKit Go.Shelf

theorem J_oneH {P : Program} {ops : Array Oper} {Q : Exit → Act → World → Prop} {i : Nat} {o : Oper} {K : Act → World → Prop} {a : Act} {w : World} (ho : ops[i]? = some o) (hg : o.guard = none) (h : ∀ K' : Act → World → Prop, Hid (∀ a w, K a w → K' a w) → o.wp P a w K' Q) : wpOp P ops Q i K a w := J_one ho hg (h K (Lib.hid fun _ _ x => x))
theorem info_int : (Tryz.prog.info? 3).map (fun i => (i.zero, i.size, i.bytes)) = some (some (.int .i64 0), 1, 8) := by kernel_rfl
theorem yieldsIf_load_row {P : Program} {ops : Array Oper} {S : World → Prop} {op : Oper} {a : Act} (hw : Region.wanted op (yielded ops a.tmps) = true) (ty : TypeId) (x : Operand) (ho : op.op = .load ty x)
    (g : Nat) (hx : a.eval x = .pointer (some ⟨g, 0, none⟩)) (t : TypeId) (cs : Array Value) (fr : Nat × Nat) (d : TypeDesc) (hS : ∀ w, S w → w.heap[g]? = some (.cells cs t fr))
    (hu : P.underlying ty = some d) (hd : (match d with | .struct _ | .array _ _ => true | _ => false) = true) (hi : (P.info? ty).map (·.size) = some cs.size) : YieldsIf P ops S op (.agg cs) a :=
  .inl ⟨hw, fun w hw' => by
    unfold execOp
    simp only [ho, hx, Instr.loadAt, Instr.sureAddr, Sem.run_bind, Sem.run_pure, Result.andThen_ok, run_loadVar_row w g t ty cs fr d (hS w hw') hu hd hi]⟩
/-- The ends, as numbers. -/
def endZ (ds : List De) : List Int := (endsOf 0 ds).map fun e : Nat => (e : Int)
/-- Where a scan's own boxes stand. -/
structure XS (w0 : World) (ds : List De) (W : World) : Prop where
  fr : Fr NoB w0 W
  e : ∃ V U LL, W.heap[w0.heap.size]? = some (.cells #[V] 29 (0, 0)) ∧ W.heap[w0.heap.size + 1]? = some (.cells #[U] 37 (0, 0)) ∧ LL.map (·.1) = ds ∧ DE (w0.heap.size + 7) W V U LL (endZ ds)
  at_ : W.heap[w0.heap.size + 2]? = some (.cells #[.int .i64 ((segB ds).length : Int)] 3 (0, 0))
  last : W.heap[w0.heap.size + 3]? = some (.cells #[.int .i64 (lastZ 0 ds)] 22 (0, 0))
  dfr : W.heap[w0.heap.size + 5]? = some (.deferred (some []))
theorem XS.any {w0 W W' : World} {ds : List De} {M : Nat → Prop} (h : XS w0 ds W) (f : Fr M W W') (hm : ∀ k, M k → k = w0.heap.size + 4 ∨ k = w0.heap.size + 6) : XS w0 ds W' := by
  obtain ⟨V, U, LL, h1, h2, h3, h4⟩ := h.e
  have hn : ∀ j, j ≠ 4 → j ≠ 6 → ¬ M (w0.heap.size + j) := fun j h4 h6 hx => by rcases hm _ hx with h | h <;> omega
  exact ⟨h.fr.upE f (fun k hk => by rcases hm k hk with h | h <;> omega), ⟨V, U, LL, f.at_ h1 (hn 0 (by omega) (by omega)), f.at_ h2 (hn 1 (by omega) (by omega)), h3, h4.keep f (fun k hk => .inl (by rcases hm k hk with h | h <;> omega))⟩, f.at_ h.at_ (hn 2 (by omega) (by omega)), f.at_ h.last (hn 3 (by omega) (by omega)), f.at_ h.dfr (hn 5 (by omega) (by omega))⟩
theorem XS.bears (w0 : World) : Bears2 (XS w0) (w0.heap.size + 4) (w0.heap.size + 6) where
  fr := fun _ _ _ h f => h.any f (fun _ x => x.elim)
  set := fun _ W u h => h.any ((Fr.refl (OneB (w0.heap.size + 4)) W).setCell (p := ⟨w0.heap.size + 4, 0, none⟩) (fun _ => rfl) u) (fun _ x => .inl x)
  put := fun _ W L h => h.any (fr_putObj W (w0.heap.size + 6) (.loop L)) (fun _ x => .inr x)

/-- The boxes, the rows under way, the loop's record. -/
structure MM (w0 W : World) (lo hi : Nat) (q : List UInt8) (L : Loop) (V0 U0 : Value) (a z : Int) (V U : Value) (LL : List (De × Pl)) (es : List Int) : Prop where
  fr : Fr NoB w0 W
  v : W.heap[w0.heap.size]? = some (.cells #[V0] 29 (0, 0))
  u : W.heap[w0.heap.size + 1]? = some (.cells #[U0] 37 (0, 0))
  at_ : W.heap[w0.heap.size + 2]? = some (.cells #[.int .i64 a] 3 (0, 0))
  last : W.heap[w0.heap.size + 3]? = some (.cells #[.int .i64 z] 22 (0, 0))
  box : ∃ A c, W.heap[w0.heap.size + 4]? = some (.cells #[.slice A q.length c] 24 (0, 0)) ∧ q.length ≤ c ∧ c ≤ maxLen ∧ Rd W lo hi A q
  dfr : W.heap[w0.heap.size + 5]? = some (.deferred (some []))
  lp : W.heap[w0.heap.size + 6]? = some (.loop L)
  hb : hi ≤ w0.heap.size
  de : DE (w0.heap.size + 7) W V U LL es
theorem MM.of {w0 W : World} {lo hi : Nat} {q : List UInt8} {L : Loop} {ds : List De} (hh : hi ≤ w0.heap.size) (h : FB (XS w0) (w0.heap.size + 4) (w0.heap.size + 6) lo hi q ds L W) : ∃ V U LL, LL.map (·.1) = ds ∧ MM w0 W lo hi q L V U ((segB ds).length : Int) (lastZ 0 ds) V U LL (endZ ds) := by
  obtain ⟨V, U, LL, h1, h2, h3, h4⟩ := h.x.e
  exact ⟨V, U, LL, h3, h.x.fr, h1, h2, h.x.at_, h.x.last, h.box, h.x.dfr, h.lp, hh, h4⟩
theorem MM.fb {w0 W : World} {lo hi : Nat} {q : List UInt8} {L : Loop} {ds : List De} {V U : Value} {LL : List (De × Pl)} (h : MM w0 W lo hi q L V U ((segB ds).length : Int) (lastZ 0 ds) V U LL (endZ ds)) (e : LL.map (·.1) = ds) : FB (XS w0) (w0.heap.size + 4) (w0.heap.size + 6) lo hi q ds L W :=
  ⟨⟨h.fr, ⟨V, U, LL, h.v, h.u, e, h.de⟩, h.at_, h.last, h.dfr⟩, h.box, h.lp, Nat.le_trans h.hb (by omega), by omega, Nat.le_trans h.hb (by omega)⟩
section
variable {w0 W W' : World} {lo hi : Nat} {q : List UInt8} {L : Loop} {V0 U0 V U : Value} {a z : Int} {LL : List (De × Pl)} {es : List Int}
theorem MM.keep {V' U' : Value} {LL' : List (De × Pl)} {es' : List Int} {M : Nat → Prop} (h : MM w0 W lo hi q L V0 U0 a z V U LL es) (f : Fr M W W') (hm : ∀ k, M k → w0.heap.size + 7 ≤ k) (hd : DE (w0.heap.size + 7) W' V' U' LL' es') : MM w0 W' lo hi q L V0 U0 a z V' U' LL' es' := by
  have hn : ∀ j, j < 7 → ¬ M (w0.heap.size + j) := fun j hj hx => by have := hm _ hx; omega
  obtain ⟨A, c, h1, h2, h3, h4⟩ := h.box
  have hlt := Lib.lt_of_heap h1
  have hb := h.hb
  exact ⟨h.fr.upE f (fun k hk => by have := hm k hk; omega), f.at_ h.v (hn 0 (by omega)), f.at_ h.u (hn 1 (by omega)), f.at_ h.at_ (hn 2 (by omega)), f.at_ h.last (hn 3 (by omega)),
    ⟨A, c, f.at_ h1 (hn 4 (by omega)), h2, h3, h4.fr f (by omega) (fun k _ hk hx => by have := hm k hx; omega)⟩, f.at_ h.dfr (hn 5 (by omega)), f.at_ h.lp (hn 6 (by omega)), hb, hd⟩
theorem MM.no (h : MM w0 W lo hi q L V0 U0 a z V U LL es) (f : Fr NoB W W') : MM w0 W' lo hi q L V0 U0 a z V U LL es := h.keep f (fun _ x => x.elim) (h.de.then f)
theorem MM.app {V' U' : Value} {LL' : List (De × Pl)} {es' : List Int} {n0 e size N : Nat} {X : Value} {ys : List Value} {X' : Value} (h : MM w0 W lo hi q L V0 U0 a z V U LL es) (hA : App n0 e size X N ys W X' W') (hX : X = V ∨ X = U) (hd : DE (w0.heap.size + 7) W' V' U' LL' es') : MM w0 W' lo hi q L V0 U0 a z V' U' LL' es' :=
  h.keep hA.fr (fun k hk => by
    rcases hX with rfl | rfl
    · exact (h.de.own.lt k hk).1
    · exact (h.de.ends.lt k hk).1) hd
theorem MM.store (h : MM w0 W lo hi q L V0 U0 a z V U LL es) (j : Nat) (hj : j < 4) (x : Value) : ∃ W', W.setCell ⟨w0.heap.size + j, 0, none⟩ x = W' ∧ Fr (OneB (w0.heap.size + j)) W W' ∧ (∀ i, i ≠ j → W'.heap[w0.heap.size + i]? = W.heap[w0.heap.size + i]?) ∧ (∃ A c, W'.heap[w0.heap.size + 4]? = some (.cells #[.slice A q.length c] 24 (0, 0)) ∧ q.length ≤ c ∧ c ≤ maxLen ∧ Rd W' lo hi A q) ∧ Fr NoB w0 W' ∧ DE (w0.heap.size + 7) W' V U LL es := by
  have f : Fr (OneB (w0.heap.size + j)) W (W.setCell ⟨w0.heap.size + j, 0, none⟩ x) := (Fr.refl (OneB (w0.heap.size + j)) W).setCell (p := ⟨w0.heap.size + j, 0, none⟩) (fun _ => rfl) _
  refine ⟨_, rfl, f, fun i hi => heap_far (by omega) _ _, ?_, h.fr.upE f (fun k hk => by simp only [OneB] at hk; omega), h.de.keep f (fun k hk => .inl (by simp only [OneB] at hk; omega))⟩
  obtain ⟨A, c, h1, h2, h3, h4⟩ := h.box
  have hlt := Lib.lt_of_heap h1
  have hb := h.hb
  exact ⟨A, c, (heap_far (by omega) _ _).trans h1, h2, h3, h4.fr f (by omega) (fun k _ hk hx => by simp only [OneB] at hx; omega)⟩
theorem MM.setV (h : MM w0 W lo hi q L V0 U0 a z V U LL es) (x : Value) : MM w0 (W.setCell ⟨w0.heap.size, 0, none⟩ x) lo hi q L x U0 a z V U LL es := by
  obtain ⟨W', e, f, hn, hbx, hf, hd⟩ := h.store 0 (by omega) x
  rw [Nat.add_zero] at e f
  rw [e]
  exact ⟨hf, by rw [← e, heap_set h.v]; rfl, (hn 1 (by omega)).trans h.u, (hn 2 (by omega)).trans h.at_, (hn 3 (by omega)).trans h.last, hbx, (hn 5 (by omega)).trans h.dfr, (hn 6 (by omega)).trans h.lp, h.hb, hd⟩
theorem MM.setU (h : MM w0 W lo hi q L V0 U0 a z V U LL es) (x : Value) : MM w0 (W.setCell ⟨w0.heap.size + 1, 0, none⟩ x) lo hi q L V0 x a z V U LL es := by
  obtain ⟨W', e, f, hn, hbx, hf, hd⟩ := h.store 1 (by omega) x
  rw [e]
  exact ⟨hf, (hn 0 (by omega)).trans h.v, by rw [← e, heap_set h.u]; rfl, (hn 2 (by omega)).trans h.at_, (hn 3 (by omega)).trans h.last, hbx, (hn 5 (by omega)).trans h.dfr, (hn 6 (by omega)).trans h.lp, h.hb, hd⟩
theorem MM.setA (h : MM w0 W lo hi q L V0 U0 a z V U LL es) (x : Int) : MM w0 (W.setCell ⟨w0.heap.size + 2, 0, none⟩ (.int .i64 x)) lo hi q L V0 U0 x z V U LL es := by
  obtain ⟨W', e, f, hn, hbx, hf, hd⟩ := h.store 2 (by omega) (.int .i64 x)
  rw [e]
  exact ⟨hf, (hn 0 (by omega)).trans h.v, (hn 1 (by omega)).trans h.u, by rw [← e, heap_set h.at_]; rfl, (hn 3 (by omega)).trans h.last, hbx, (hn 5 (by omega)).trans h.dfr, (hn 6 (by omega)).trans h.lp, h.hb, hd⟩
theorem MM.setZ (h : MM w0 W lo hi q L V0 U0 a z V U LL es) (x : Int) : MM w0 (W.setCell ⟨w0.heap.size + 3, 0, none⟩ (.int .i64 x)) lo hi q L V0 U0 a x V U LL es := by
  obtain ⟨W', e, f, hn, hbx, hf, hd⟩ := h.store 3 (by omega) (.int .i64 x)
  rw [e]
  exact ⟨hf, (hn 0 (by omega)).trans h.v, (hn 1 (by omega)).trans h.u, (hn 2 (by omega)).trans h.at_, by rw [← e, heap_set h.last]; rfl, hbx, (hn 5 (by omega)).trans h.dfr, (hn 6 (by omega)).trans h.lp, h.hb, hd⟩
/-- What is at hand while the two rows grow: the boxes still hold what they held, the deed stands in its block. -/
def Cd (w0 : World) (D : Nat) (V0 U0 : Value) (a : Int) (cs : Array Value) (W : World) : Prop :=
  W.cell? ⟨w0.heap.size, 0, none⟩ = some V0 ∧ W.cell? ⟨w0.heap.size + 1, 0, none⟩ = some U0 ∧ W.cell? ⟨w0.heap.size + 2, 0, none⟩ = some (.int .i64 a) ∧ W.heap[D]? = some (.cells cs 31 (0, 0))
theorem MM.cd {D : Nat} {cs : Array Value} (h : MM w0 W lo hi q L V0 U0 a z V U LL es) (hD : W.heap[D]? = some (.cells cs 31 (0, 0))) : Cd w0 D V0 U0 a cs W := ⟨(cells_of h.v 0).1, (cells_of h.u 0).1, (cells_of h.at_ 0).1, hD⟩
end
end Go.Proofs.YtmlmbahimklfiaaGreatDoor
