/-
  Sgr: a range over the frames that bytes begin with.
-/
import Derived.Test.YtmlmbahimklfiaaDoorSgf
import Derived.Test.YtmlmbahimklfiaaDoorPtd
namespace Go.Proofs.YtmlmbahimklfiaaDoor
open Go.RowKit Go.Shelf
attribute [local go_sem] Oper.semAt_some

theorem fr_putObj (W : World) (R : Nat) (o : Obj) : Fr (OneB R) W (W.putObj R o) :=
  ⟨(Fr.refl (OneB R) W).os, (Fr.refl (OneB R) W).tape, (Fr.refl (OneB R) W).output, by simp, fun k hk hm => World.putObj_heap_other (fun h => hm h)⟩
/-- What a scan's own state bears, of the loop's record too. -/
structure Bears2 (X : List De → World → Prop) (B R : Nat) : Prop extends Bears X B where
  put : ∀ ds W L, X ds W → X ds (W.putObj R (.loop L))
theorem FB.put {X : List De → World → Prop} {B R lo hi : Nat} {q : List UInt8} {ds : List De} {L : Loop} {W : World} (h : FB X B R lo hi q ds L W) (hX : Bears2 X B R) (L' : Loop) : FB X B R lo hi q ds L' (W.putObj R (.loop L')) := by
  obtain ⟨A, c, h1, h2, h3, h4⟩ := h.box
  have f := fr_putObj W R (.loop L')
  have hlt := Lib.lt_of_heap h1
  exact ⟨hX.put _ _ _ h.x, ⟨A, c, (World.putObj_heap_other h.hb.2.1).trans h1, h2, h3, h4.fr f (by have := h.hb.1; omega) (fun k _ hk hx => by simp only [OneB] at hx; have := h.hb.2.2; omega)⟩, World.putObj_heap_same (Lib.lt_of_heap h.lp), h.hb⟩
/-- How a round's body leaves. -/
def bodyS (X : List De → World → Prop) (B R lo hi : Nat) (q : List UInt8) (ds : List De) (L : Loop) (x : List UInt8) : Exit → Act → World → Prop
  | .normal, _, W' => ∃ d, getD x = some d ∧ ¬ d.1.z ≤ lastZ 0 ds ∧ FB X B R lo hi q (ds ++ [d]) L W'
  | .exit id, _, W' => id = 0 ∧ (getD x = none ∨ ∃ d, getD x = some d ∧ d.1.z ≤ lastZ 0 ds) ∧ FB X B R lo hi q ds L W'
  | _, _, _ => False

set_option maxRecDepth 100000 in
set_option maxHeartbeats 1000000 in
/-- A range over frames. -/
theorem range_scan {Q : Exit → Act → World → Prop} {a : Act} {assign body : Code} {n : Nat} {w2 : World} {b : List UInt8} {lo hi : Nat} (hb : b.length ≤ 140737488355328) (X : List De → World → Prop) (hX : Bears2 X (n + 4) (n + 6)) (hhi : hi ≤ n + 4) (a₁ : Value → Value → Act)
    (ha : a.eval (.tmp 14) = .func (.func 37) #[] #[.pointer (some ⟨n + 4, 0, none⟩)]) (hsz : w2.heap.size = n + 5)
    (hx0 : ∀ L, X [] ((w2.alloc (.deferred (some []))).alloc (.loop L))) (hbx : ∃ A c, w2.heap[n + 4]? = some (.cells #[.slice A b.length c] 22 (0, 0)) ∧ b.length ≤ c ∧ c ≤ maxLen ∧ Rd w2 lo hi A b)
    (hassign : ∀ (l : Nat) (u v : Value) (W : World) (K : Act → World → Prop), K (a₁ u v) W → assign.wpIn (Fence.wide.inRound l) 1 Tryd.prog (Exit.then K (fun _ _ _ => False)) { tmps := ((#[15, 16] : Array Tmp).zip #[u, v]).foldl (fun t (p, v) => t.setIfInBounds p v) a.tmps, defers := [] } W)
    (hbody : ∀ (l : Nat) (q : List UInt8) (ds : List De) (x : List UInt8) (A : Option Addr) (c lo2 hi2 : Nat) (L : Loop) (W : World), FB X (n + 4) (n + 6) lo hi q ds L W → Sc b ds q → unframe q = some x → x.length ≤ 140737488355328 → Rd W lo2 hi2 A x → hi2 ≤ W.heap.size → body.wpIn (Fence.wide.inRound l) 1 Tryd.prog (bodyS X (n + 4) (n + 6) lo hi q ds L x) (a₁ (.slice A x.length c) (.int .i64 (8 + (x.length : Int)))) W)
    (hdone : ∀ q L W, FB X (n + 4) (n + 6) lo hi q (scan b) L W → Q .normal { a with defers := { target := .collected (n + 5), args := #[] } :: a.defers } W)
    (hstop : ∀ q L W, FB X (n + 4) (n + 6) lo hi q (scan b) L W → (Code.exit 0).wpIn Fence.wide 3 Tryd.prog Q { a with defers := { target := .collected (n + 5), args := #[] } :: a.defers } W) :
    (Code.rangeFunc (.tmp 14) #[15, 16] assign body).wpIn Fence.wide 3 Tryd.prog Q a w2 := by
  refine wpIn_rangeFunc ?_
  intro fn hfn
  obtain ⟨rec, hrec⟩ : ∃ rec : LoopState → Option Code → Loop, rec = fun st pe => { state := st, pending := pe, fn, tmps := a.tmps, params := #[15, 16], assign, body, defers := n + 5 } := ⟨_, rfl⟩
  have he : (Instr.enterLoop fn a.tmps #[15, 16] assign body Fence.wide.round).run Tryd.prog w2 = .ok (n + 6, [{ target := .collected (n + 5), args := #[] }]) ((w2.alloc (.deferred (some []))).alloc (.loop (rec .ready none))) := by
    have h := run_enterLoop_outer (P := Tryd.prog) (w := w2) fn a.tmps #[15, 16] assign body
    rw [hsz] at h
    rw [hrec]
    exact h
  have hp : FB X (n + 4) (n + 6) lo hi b [] (rec .ready none) ((w2.alloc (.deferred (some []))).alloc (.loop (rec .ready none))) := by
    obtain ⟨A, c, h1, h2, h3, h4⟩ := hbx
    have f := ((Fr.refl NoB w2).alloc (.deferred (some []))).alloc (.loop (rec .ready none))
    refine ⟨hx0 _, ⟨A, c, f.at_ h1 (fun x => x), h2, h3, h4.fr f (by omega) (fun _ _ _ x => x)⟩, ?_, hhi, by omega, by omega⟩
    have := heap_alloc_new (w2.alloc (.deferred (some []))) (.loop (rec .ready none))
    rw [World.size_alloc, hsz] at this
    exact this
  generalize (w2.alloc (.deferred (some []))).alloc (.loop (rec .ready none)) = W1 at he hp
  have eg : ∀ args w, (callFunc 37 args).run Tryd.prog w = .ok (.enter 37 args) w := enters_of Tryd.func37 (by kernel_rfl) rfl
  refine ⟨n + 6, [{ target := .collected (n + 5), args := #[] }], W1, { target := .fn (.func 37) #[.pointer (some ⟨n + 4, 0, none⟩)], args := #[.func (.yield (n + 6)) #[] #[]] }, W1, 37,
    #[.func (.yield (n + 6)) #[] #[]] ++ #[.pointer (some ⟨n + 4, 0, none⟩)], W1, he, ?_, (fun _ _ => trivial), ?_, (fun h => by cases h), ?_⟩
  · simp only [resolve, ha]
    simp [go_sem]
  · simp [invoke, go_sem, eg]
  · refine (frames1_in 2 X (n + 4) (n + 6) lo hi hX.toBears W1 b hb rec ?_ hp).mono ?_
    · intro W q ds x A c lo2 hi2 hq hsc hu hxl hr2 hh2 hrl
      have hy := run_yield (P := Tryd.prog) (args := #[.slice A x.length c, .int .i64 (8 + (x.length : Int))]) hq.lp (by rw [hrec]; rfl)
      rw [hrec] at hy
      refine ⟨fn, _, assign, body, hy, roundIn_of_wpIn hfn ?_⟩
      refine hassign _ _ _ W _ ?_
      refine ⟨_, run_beginRound hq.lp (by rw [hrec]), ?_⟩
      refine wpIn_mono (hbody _ q ds x A c lo2 hi2 _ _ (hq.put hX _) hsc hu (by omega) (hr2.fr (fr_putObj W (n + 6) _) hh2 (fun k h1 h2 hx => by simp only [OneB] at hx; omega)) (by simpa using hh2)) ?_
      intro e a3 W3 hp3
      cases e with
      | normal =>
        obtain ⟨d, hg, hz, hp3⟩ := hp3
        have hr := run_endRound (P := Tryd.prog) none hp3.lp
        exact ⟨_, _, hr, .inl ⟨rfl, d, hg, hz, by have := hp3.put hX (rec .ready none); rw [hrec] at this ⊢; exact this⟩⟩
      | exit id =>
        obtain ⟨rfl, hg, hp3⟩ := hp3
        have hr := run_endRound (P := Tryd.prog) (some (.exit 0)) hp3.lp
        exact ⟨_, _, hr, .inr ⟨rfl, hg, by have := hp3.put hX (rec .done (some (.exit 0))); rw [hrec] at this ⊢; exact this⟩⟩
      | ret => exact hp3.elim
      | goto t => exact hp3.elim
      | panic ch => exact hp3.elim
      | outgrown => exact hp3.elim
    · rintro e W2 ⟨⟨v, rfl⟩, q, hq | hq⟩
      · have hr := run_endLoop (P := Tryd.prog) hq.lp (by rw [hrec]; simp)
        rw [hrec] at hr
        exact ⟨none, _, hr, hdone q _ _ (hq.put hX _)⟩
      · have hr := run_endLoop (P := Tryd.prog) hq.lp (by rw [hrec]; simp)
        rw [hrec] at hr
        exact ⟨some (.exit 0), _, hr, hstop q _ _ (hq.put hX _)⟩
end Go.Proofs.YtmlmbahimklfiaaDoor
