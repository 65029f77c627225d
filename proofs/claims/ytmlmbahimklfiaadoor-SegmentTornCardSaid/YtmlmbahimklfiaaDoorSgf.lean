/-
  Sgf: the frames that bytes begin with, as the program goes through them.
-/
import Derived.Test.YtmlmbahimklfiaaDoorFrn
import Derived.Test.YtmlmbahimklfiaaDoorSgh
import Derived.RangeFuncBound
import Derived.RangeFuncCalls
import Derived.RangeFuncLeaves
import Derived.RangeFuncNested
import Derived.Shelf.Abstract
import Derived.Shelf.RegionOpen
import Derived.WalkKit
import Derived.OwnWalkIn
import Derived.TacticsInMore
import Derived.LoopNIn
import Derived.LoopIn
namespace Go.Proofs.YtmlmbahimklfiaaDoor
open Go.RowKit Go.Shelf
attribute [local go_sem] Oper.semAt_some

/-- Where a scan stands: its own state, the box of the bytes that are left, the loop's record. -/
structure FB (X : List De → World → Prop) (B R lo hi : Nat) (q : List UInt8) (ds : List De) (L : Loop) (W : World) : Prop where
  x : X ds W
  box : ∃ A c, W.heap[B]? = some (.cells #[.slice A q.length c] 22 (0, 0)) ∧ q.length ≤ c ∧ c ≤ maxLen ∧ Rd W lo hi A q
  lp : W.heap[R]? = some (.loop L)
  hb : hi ≤ B ∧ B ≠ R ∧ hi ≤ R
theorem lastZ_snoc (ds : List De) (d : De) : ∀ a, lastZ a (ds ++ [d]) = d.1.z := by
  induction ds with
  | nil => intro a; rfl
  | cons e l ih => intro a; exact ih _
/-- A scan that has gone by these deeds. -/
def Sc (b : List UInt8) (ds : List De) (q : List UInt8) : Prop := ∃ m, q.length < m ∧ scan b = ds ++ scanF m (lastZ 0 ds) q
theorem Sc.bound {b q x : List UInt8} {ds : List De} {d : De} (h : Sc b ds q) (hu : unframe q = some x) (hg : getD x = some d) (hz : ¬ d.1.z ≤ lastZ 0 ds) : (segB ds).length + (8 + x.length) ≤ b.length ∧ 9 * (ds.length + 1) ≤ b.length ∧ (segB (ds ++ [d])).length = (segB ds).length + (8 + x.length) := by
  obtain ⟨m, hm, hs⟩ := h
  obtain ⟨m2, rfl⟩ : ∃ m2, m = m2 + 1 := ⟨m - 1, by omega⟩
  rw [scanF_one hu hg hz] at hs
  have hl := segB_le b
  have e : (segB (ds ++ [d])).length = (segB ds).length + (8 + x.length) := by
    rw [segB_append, List.length_append, segB_cons, List.length_append, frameB_len, (getD_rightD hg).1]
    simp [segB]
  have e2 : (segB (scan b)).length = (segB (ds ++ [d])).length + (segB (scanF m2 d.1.z (q.drop (8 + x.length)))).length := by
    rw [hs, ← List.length_append, ← segB_append, List.append_assoc, List.singleton_append]
  have c : ∀ l : List De, 9 * l.length ≤ (segB l).length := fun l => by
    induction l with
    | nil => simp
    | cons d l ih => rw [segB_cons, List.length_append, List.length_cons]; have := segN_pos d; unfold segN at this; omega
  have := c (ds ++ [d])
  rw [List.length_append, List.length_singleton] at this
  exact ⟨by omega, by omega, e⟩
/-- What a scan's own state bears. -/
structure Bears (X : List De → World → Prop) (B : Nat) : Prop where
  fr : ∀ ds W W', X ds W → Fr NoB W W' → X ds W'
  set : ∀ ds W u, X ds W → X ds (W.setCell ⟨B, 0, none⟩ u)
theorem FB.fr {X : List De → World → Prop} {B R lo hi : Nat} {q : List UInt8} {ds : List De} {L : Loop} {W W' : World} (h : FB X B R lo hi q ds L W) (hX : Bears X B) (f : Fr NoB W W') : FB X B R lo hi q ds L W' := by
  obtain ⟨A, c, h1, h2, h3, h4⟩ := h.box
  exact ⟨hX.fr _ _ _ h.x f, ⟨A, c, f.at_ h1 (fun x => x), h2, h3, h4.fr f (Nat.le_of_lt (Nat.lt_of_le_of_lt h.hb.1 (Lib.lt_of_heap h1))) (fun _ _ _ x => x)⟩, f.at_ h.lp (fun x => x), h.hb⟩
/-- How many bytes are left. -/
def left (W : World) (B : Nat) : Nat := match W.heap[B]? with | some (.cells #[.slice _ n _] _ _) => n | _ => 0
theorem FB.left {X : List De → World → Prop} {B R lo hi : Nat} {q : List UInt8} {ds : List De} {L : Loop} {W : World} (h : FB X B R lo hi q ds L W) : left W B = q.length := by
  obtain ⟨A, c, h1, -⟩ := h.box
  unfold Go.Proofs.YtmlmbahimklfiaaDoor.left
  rw [h1]
  rfl
theorem FB.cell {X : List De → World → Prop} {B R lo hi : Nat} {q : List UInt8} {ds : List De} {L : Loop} {W : World} (h : FB X B R lo hi q ds L W) : ∃ A c, q.length ≤ c ∧ c ≤ maxLen ∧ Rd W lo hi A q ∧ W.cell? ⟨B, 0, none⟩ = some (.slice A q.length c) ∧ W.frozen? ⟨B, 0, none⟩ = false := by
  obtain ⟨A, c, h1, h2, h3, h4⟩ := h.box
  exact ⟨A, c, h2, h3, h4, (cells_of h1 0).1, (cells_of h1 0).2⟩
theorem FB.cut {X : List De → World → Prop} {B R lo hi : Nat} {q : List UInt8} {ds : List De} {L : Loop} {W : World} (h : FB X B R lo hi q ds L W) (hX : Bears X B) {A : Option Addr} {c : Nat} (q' : List UInt8) (hl : q'.length ≤ c) (hc : c ≤ maxLen) (hr : Rd W lo hi A q') : FB X B R lo hi q' ds L (W.setCell ⟨B, 0, none⟩ (.slice A q'.length c)) := by
  obtain ⟨A0, c0, h1, -, -, -⟩ := h.box
  have f : Fr (OneB B) W (W.setCell ⟨B, 0, none⟩ (.slice A q'.length c)) := (Fr.refl (OneB B) W).setCell (p := ⟨B, 0, none⟩) (fun _ => rfl) _
  exact ⟨hX.set _ _ _ h.x, ⟨A, c, by rw [heap_set h1]; rfl, hl, hc, hr.fr f (Nat.le_of_lt (Nat.lt_of_le_of_lt h.hb.1 (Lib.lt_of_heap h1))) (fun k _ hk hx => by simp only [OneB] at hx; have := h.hb.1; omega)⟩, f.at_ h.lp (fun hx => h.hb.2.1 hx.symm), h.hb⟩

set_option maxRecDepth 100000 in
set_option maxHeartbeats 4000000 in
theorem frames1_in (n : Nat) (X : List De → World → Prop) (B R lo hi : Nat) (hX : Bears X B) (W : World) (b : List UInt8) (hb : b.length ≤ 140737488355328) (rec : LoopState → Option Code → Loop)
    (hY : ∀ W q ds x A c lo2 hi2, FB X B R lo hi q ds (rec .ready none) W → Sc b ds q → unframe q = some x → x.length ≤ b.length → Rd W lo2 hi2 A x → hi2 ≤ W.heap.size → R < lo2 → YieldAt Fence.wide (n - 1) Tryd.prog R #[.slice A x.length c, .int .i64 (8 + (x.length : Int))] W fun e W' => (e = .returned (.bool true) ∧ ∃ d, getD x = some d ∧ ¬ d.1.z ≤ lastZ 0 ds ∧ FB X B R lo hi q (ds ++ [d]) (rec .ready none) W') ∨ (e = .returned (.bool false) ∧ (getD x = none ∨ ∃ d, getD x = some d ∧ d.1.z ≤ lastZ 0 ds) ∧ FB X B R lo hi q ds (rec .done (some (.exit 0))) W'))
    (h0 : FB X B R lo hi b [] (rec .ready none) W) :
    CallsIn Fence.wide n Tryd.prog 37 #[.func (.yield R) #[] #[], .pointer (some ⟨B, 0, none⟩)] W fun e W' => (∃ v, e = .returned v) ∧ ∃ q, FB X B R lo hi q (scan b) (rec .ready none) W' ∨ FB X B R lo hi q (scan b) (rec .done (some (.exit 0))) W' := by
  refine callsIn_of_wp Tryd.func37 rfl trivial ?_ rfl
  simp only [Tryd.ntmps37, List.size_toArray, List.length_cons, List.length_nil, Nat.reduceAdd, Nat.reduceSub, Array.replicate_succ, Array.replicate_zero, List.push_toArray, List.append_toArray, List.nil_append, List.cons_append]
  gi_wp2
  gi_loopw [] (fun W' => ∃ q ds m, q.length ≤ b.length ∧ q.length < m ∧ scan b = ds ++ scanF m (lastZ 0 ds) q ∧ FB X B R lo hi q ds (rec .ready none) W') (fun W' => left W' B)
  case atStart => exact ⟨b, [], b.length + 1, Nat.le_refl _, by omega, rfl, h0⟩
  case round =>
    obtain ⟨q, ds, m, hqb, hm, hs, hp⟩ := hrel
    obtain ⟨A, c, h1, h2, h3, hc, hz⟩ := hp.cell
    have hcall := unframe_calls A q c lo hi wr h3 (by obtain ⟨_, _, hh, _⟩ := hp.box; exact Nat.le_of_lt (Nat.lt_of_le_of_lt hp.hb.1 (Lib.lt_of_heap hh))) h1 h2 (by omega)
    cases hu : unframe q with
    | none =>
      have hcall2 : Calls Tryd.prog 38 #[.slice A q.length c] wr fun e W' => e = .returned (.tuple #[.slice none 0 0, .int .i64 0, .int .i64 4]) ∧ Fr NoB wr W' := hcall.mono fun e W' h => by
        unfold Unframed at h
        rw [hu] at h
        exact h
      gi_wp2_with (refine ⟨trivial, (fun h => by cases h), ?_⟩; gi_at_call 38; refine (callsIn_wide.2 hcall2).mono ?_; rintro e w' ⟨rfl, f⟩)
      all_goals
        refine ⟨(fun _ h => by cases h), ?_⟩
        gi_wp2
        refine bodyPost_ret (results_none rfl _ _ _) rfl ?_
        exact ⟨⟨_, rfl⟩, q, .inl (by rw [hs, scanF_none hu, List.append_nil]; exact hp.fr hX f)⟩
    | some x =>
      have hxl := unframe_len hu
      have hcall2 : Calls Tryd.prog 38 #[.slice A q.length c] wr fun e W' => ∃ A2 c2, e = .returned (.tuple #[.slice A2 x.length c2, .int .i64 (8 + (x.length : Int)), .int .i64 0]) ∧ Rd W' wr.heap.size W'.heap.size A2 x ∧ Fr NoB wr W' := hcall.mono fun e W' h => by
        unfold Unframed at h
        rw [hu] at h
        obtain ⟨⟨v, rfl, ho⟩, hf⟩ := h
        obtain ⟨A2, c2, rfl, -, -⟩ := own_form ho
        exact ⟨A2, c2, by push_cast; rfl, own_rd ho, hf⟩
      have hn1 : (8 + (x.length : Int)) ≤ (q.length : Int) := by omega
      have hn0 : (0 : Int) ≤ 8 + (x.length : Int) := by omega
      gi_wp2_with (first | (refine ⟨trivial, (fun h => by cases h), ?_⟩; gi_at_call 38; refine (callsIn_wide.2 hcall2).mono ?_; rintro e w' ⟨A2, c2, rfl, hr2, f⟩; obtain ⟨fn, tmps, assign, body, hy, hR⟩ := hY w' q ds x A2 c2 _ _ (hp.fr hX f) ⟨m, hm, hs⟩ hu (by omega) hr2 (Nat.le_refl _) (Lib.lt_of_heap hp.lp)) | (refine ⟨(fun h => by cases h), ?_⟩; refine hR.mono ?_; rintro e W' (⟨rfl, d, hg, hz2, hp'⟩ | ⟨rfl, hg, hp'⟩); all_goals (obtain ⟨A3, c3, k1, k2, k3, kc, kz⟩ := hp'.cell; have k1i : (q.length : Int) ≤ (c3 : Int) := by omega)))
      all_goals first
        | (refine bodyPost_ret (results_none rfl _ _ _) rfl ?_
           refine ⟨⟨_, rfl⟩, q, .inr ?_⟩
           have e : scan b = ds := by
             rw [hs]
             rcases hg with hg | ⟨d, hg, hz2⟩
             · rw [scanF_nog hu hg, List.append_nil]
             · rw [scanF_le hu hg hz2, List.append_nil]
           rw [e]
           exact hp')
        | (have hdl : (q.drop (8 + x.length)).length = q.length - (8 + x.length) := List.length_drop ..
           have hcut := hp'.cut hX (q.drop (8 + x.length)) (A := if q.length = 8 + x.length then A3 else A3.map (·.add (8 + x.length))) (c := q.length - (8 + x.length)) (by omega) (by omega) (k3.drop (n := 8 + x.length) (c := q.length) hxl (Nat.le_refl _))
           rw [hdl] at hcut
           obtain ⟨m2, rfl⟩ : ∃ m2, m = m2 + 1 := ⟨m - 1, by omega⟩
           refine ⟨⟨q.drop (8 + x.length), ds ++ [d], m2, by omega, by omega, ?_, hcut⟩, ?_⟩
           · rw [hs, scanF_one hu hg (by omega), lastZ_snoc, List.append_assoc, List.singleton_append]
           · have hl1 := hcut.left
             have hl2 := hp.left
             rw [hl1, hl2]
             omega)
        | trace_state
end Go.Proofs.YtmlmbahimklfiaaDoor
