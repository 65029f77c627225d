/-
  Ptc: path.parts's closure, and path.Check.
-/
import Derived.Test.YtljioepkbbbibaaDoorPtb
import Derived.RangeFuncNested
import Derived.RangeFuncBound
import Derived.RangeFuncCalls
import Derived.RangeFuncLeaves
import Derived.Shelf.Abstract
import Derived.Shelf.RegionOpen
import Derived.WalkKit
import Derived.OwnWalkIn
import Derived.TacticsInMore
import Derived.LoopNIn
import Derived.LoopIn
namespace Go.Proofs.YtljioepkbbbibaaDoor
open Go.RowKit Go.Shelf
attribute [local go_sem] Oper.semAt_some

/-- Where a check of a path stands: its result's cell, the text's box, the calls put off, the loop's record. -/
structure PB (w : World) (q : List UInt8) (L : Loop) (W : World) : Prop where
  fr : Fr NoB w W
  res : W.heap[w.heap.size]? = some (.cells #[.bool false] 4 (0, 0))
  box : W.heap[w.heap.size + 1]? = some (.cells #[.string ⟨q.toArray⟩] 9 (0, 0))
  dfr : W.heap[w.heap.size + 2]? = some (.deferred (some []))
  lp : W.heap[w.heap.size + 3]? = some (.loop L)

theorem PB.drewN {w W : World} {q : List UInt8} {L : Loop} (h : PB w q L W) (n : Nat) : PB w q L (W.drewN n) := ⟨h.fr.drewN n, h.res, h.box, h.dfr, h.lp⟩
theorem PB.drew {w W : World} {q : List UInt8} {L : Loop} (h : PB w q L W) : PB w q L W.drew := ⟨h.fr.drew, h.res, h.box, h.dfr, h.lp⟩
theorem PB.cell {w W : World} {q : List UInt8} {L : Loop} (h : PB w q L W) : W.cell? ⟨w.heap.size + 1, 0, none⟩ = some (.string ⟨q.toArray⟩) ∧ W.frozen? ⟨w.heap.size + 1, 0, none⟩ = false := by
  have := h.box
  exact ⟨by simp [World.cell?, this], by simp [World.frozen?, this]⟩
theorem PB.set {w W : World} {q : List UInt8} {L : Loop} (h : PB w q L W) (q' : List UInt8) : PB w q' L (W.setCell ⟨w.heap.size + 1, 0, none⟩ (.string ⟨q'.toArray⟩)) := by
  refine ⟨h.fr.setCell (fun hx => by simp at hx; omega) _, ?_, (Boxed.set _ h.box : Boxed _ _ _ _), ?_, ?_⟩
  · exact (Below.heap_setCell W ⟨w.heap.size + 1, 0, none⟩ _ _ (by simp)).trans h.res
  · exact (Below.heap_setCell W ⟨w.heap.size + 1, 0, none⟩ _ _ (by simp)).trans h.dfr
  · exact (Below.heap_setCell W ⟨w.heap.size + 1, 0, none⟩ _ _ (by simp)).trans h.lp

/-- How long the text in a box is. -/
def boxLen (W : World) (B : Nat) : Nat := match W.heap[B]? with | some (.cells #[.string s] _ _) => s.size | _ => 0
theorem PB.len {w W : World} {q : List UInt8} {L : Loop} (h : PB w q L W) : boxLen W (w.heap.size + 1) = q.length := by
  unfold boxLen
  rw [h.box]
  exact mk_size q

set_option maxRecDepth 100000 in
set_option maxHeartbeats 4000000 in
theorem parts1_in (n : Nat) (w W : World) (t0 : List UInt8) (rec : LoopState → Option Code → Loop) (hl : t0.length ≤ 200)
    (hY : ∀ W q s, PB w q (rec .ready none) W → YieldAt Fence.wide (n - 1) Tryd.prog (w.heap.size + 3) #[.string ⟨s.toArray⟩] W fun e W' => (partOk s = true ∧ e = .returned (.bool true) ∧ PB w q (rec .ready none) W') ∨ (partOk s = false ∧ e = .returned (.bool false) ∧ PB w q (rec .done (some .ret)) W'))
    (h0 : PB w (47 :: t0) (rec .ready none) W) :
    CallsIn Fence.wide n Tryd.prog 99 #[.func (.yield (w.heap.size + 3)) #[] #[], .pointer (some ⟨w.heap.size + 1, 0, none⟩)] W fun e W' => (∃ v, e = .returned v) ∧ ((rp t0 = true ∧ ∃ q, PB w q (rec .ready none) W') ∨ (rp t0 = false ∧ ∃ q, PB w q (rec .done (some .ret)) W')) := by
  refine callsIn_of_wp Tryd.func99 rfl trivial ?_ rfl
  simp only [Tryd.ntmps99, List.size_toArray, List.length_cons, List.length_nil, Nat.reduceAdd, Nat.reduceSub, Array.replicate_succ, Array.replicate_zero, List.push_toArray, List.append_toArray, List.nil_append, List.cons_append]
  gi_wp2
  gi_loopw [] (fun W' => (∃ t, rp t0 = rp t ∧ t.length ≤ 200 ∧ PB w (47 :: t) (rec .ready none) W') ∨ (rp t0 = false ∧ PB w [47] (rec .done (some .ret)) W')) (fun W' => boxLen W' (w.heap.size + 1))
  case atStart => exact .inl ⟨t0, rfl, hl, h0⟩
  case round =>
    rcases hrel with ⟨t, ht0, htl, hp⟩ | ⟨ht0, hp⟩
    · have hc := hp.cell.1
      have hz := hp.cell.2
      by_cases ht : t = []
      · subst ht
        gi_wp2
        go_end0
        exact ⟨⟨_, rfl⟩, .inl ⟨by rw [ht0]; rfl, _, hp⟩⟩
      · have hs1 : (ByteArray.mk (47 :: t).toArray).extract 1 (ByteArray.mk (47 :: t).toArray).size = ⟨t.toArray⟩ := by
          rw [mk_ext, mk_size]; simp
        have hs2 : (1 : Int) ≤ ((ByteArray.mk (47 :: t).toArray).size : Int) := by rw [mk_size]; simp; omega
        have hsz : (ByteArray.mk (47 :: t).toArray).size = t.length + 1 := by rw [mk_size]; rfl
        have hl1 : (ByteArray.mk (47 :: t).toArray).toList.isEmpty = false := by simp
        have hl2 : ((ByteArray.mk (47 :: t).toArray).toList == [47]) = false := by simpa using ht
        have hl3 : ¬ (ByteArray.mk (47 :: t).toArray).toList = [] := by simp
        have mixed : Tryd.prog.follows .mixedOrders = true := by kernel_rfl
        rcases cutAt t with hno | ⟨a, b, rfl, hno⟩
        · have hcut := fun W => cut_none t W hno
          have hcm : (((ByteArray.mk t.toArray).size : Int) + 1 == ((ByteArray.mk (47 :: t).toArray).size : Int)) = true := by rw [mk_size, hsz]; simp
          have hnz : ((ByteArray.mk t.toArray).size : Int) ≤ 300 := by rw [mk_size]; omega
          have hnz0 : (0 : Int) ≤ ((ByteArray.mk t.toArray).size : Int) := by omega
          have hyy := fun k => (hY (wr.drewN k) (47 :: t) t (hp.drewN k)).mono (R' := fun e W' => ((partOk t = true ∧ e = .returned (.bool true) ∧ PB w (47 :: t) (rec .ready none) W') ∨ (partOk t = false ∧ e = .returned (.bool false) ∧ PB w (47 :: t) (rec .done (some .ret)) W')) ∧ W'.cell? ⟨w.heap.size + 1, 0, none⟩ = some (.string (ByteArray.mk (47 :: t).toArray)) ∧ W'.frozen? ⟨w.heap.size + 1, 0, none⟩ = false) (fun e W' h => ⟨h, by rcases h with ⟨_, _, h⟩ | ⟨_, _, h⟩ <;> exact h.cell⟩)
          generalize hS : (ByteArray.mk (47 :: t).toArray) = S at hc hs1 hs2 hl1 hl2 hl3 hcm hyy
          generalize hN : (ByteArray.mk t.toArray) = N at hcut hs1 hcm hnz hnz0 hyy
          rw [rp_none ht hno] at ht0
          clear hsz hS hN
          gi_wp2_with (first | (refine ⟨trivial, (fun h => by cases h), ?_⟩; gi_at_call 100; refine (callsIn_wide.2 (hcut _)).mono ?_; rintro e w' ⟨rfl, k, rfl⟩; obtain ⟨fn, tmps, assign, body, hy, hR⟩ := hyy k) | (refine ⟨(fun h => by cases h), ?_⟩; refine hR.mono ?_; rintro e W' ⟨⟨hpo, rfl, hp'⟩ | ⟨hpo, rfl, hp'⟩, hc', hz'⟩))
          · refine bodyPost_ret (results_none rfl _ _ _) rfl ?_
            exact ⟨⟨_, rfl⟩, .inl ⟨by rw [ht0, hpo], _, hp'⟩⟩
          · refine bodyPost_ret (results_none rfl _ _ _) rfl ?_
            exact ⟨⟨_, rfl⟩, .inr ⟨by rw [ht0, hpo], _, hp'⟩⟩
        · have hlen : (a ++ 47 :: b).length = a.length + b.length + 1 := by simp; omega
          have hcut := fun W => cut_some a b W hno (by omega)
          have hcm : (((ByteArray.mk a.toArray).size : Int) + 1 == ((ByteArray.mk (47 :: (a ++ 47 :: b)).toArray).size : Int)) = false := by
            rw [mk_size, hsz, hlen, beq_eq_false_iff_ne]; omega
          have hnz : ((ByteArray.mk a.toArray).size : Int) ≤ 300 := by rw [mk_size]; omega
          have hnz0 : (0 : Int) ≤ ((ByteArray.mk a.toArray).size : Int) := by omega
          have hadd : ByteArray.mk #[47] ++ ByteArray.mk b.toArray = ByteArray.mk (47 :: b).toArray := mk_app [47] b
          have hbl := hp.len
          have hrs : ¬ 9223372036854775807 < 1 + (ByteArray.mk b.toArray).size := by rw [mk_size]; omega
          rw [rp_some a b hno] at ht0
          by_cases hb : b = []
          · subst hb
            replace hcut : ∀ W, Calls Tryd.prog 100 #[.string ⟨(a ++ [47]).toArray⟩, .string ⟨#[47]⟩] W fun e w' => e = .returned (.tuple #[.string ⟨a.toArray⟩, .string ⟨#[]⟩, .bool true]) ∧ ∃ n, w' = W.drewN n := hcut
            replace hadd : ByteArray.mk #[47] ++ ByteArray.mk #[] = ByteArray.mk #[47] := hadd
            have hrs2 : ¬ 9223372036854775807 < 1 + (ByteArray.mk #[]).size := by decide
            have hyy := fun k => (hY (wr.drewN k) (47 :: (a ++ [47])) a (hp.drewN k)).mono (R' := fun e W' => ((partOk a = true ∧ e = .returned (.bool true) ∧ PB w (47 :: (a ++ [47])) (rec .ready none) W' ∧ YieldAt Fence.wide (n - 1) Tryd.prog (w.heap.size + 3) #[.string (ByteArray.mk #[])] (W'.setCell ⟨w.heap.size + 1, 0, none⟩ (.string (ByteArray.mk ([47] : List UInt8).toArray))) fun e W'' => e = .returned (.bool false) ∧ PB w [47] (rec .done (some .ret)) W'') ∨ (partOk a = false ∧ e = .returned (.bool false) ∧ PB w (47 :: (a ++ [47])) (rec .done (some .ret)) W')) ∧ W'.cell? ⟨w.heap.size + 1, 0, none⟩ = some (.string (ByteArray.mk (47 :: (a ++ [47])).toArray)) ∧ W'.frozen? ⟨w.heap.size + 1, 0, none⟩ = false) (fun e W' h => by
              rcases h with ⟨h1, h2, h⟩ | ⟨h1, h2, h⟩
              · refine ⟨.inl ⟨h1, h2, h, (hY _ [47] [] (h.set [47])).mono fun e W'' h' => ?_⟩, h.cell⟩
                rcases h' with ⟨h1, _⟩ | ⟨_, h2, h3⟩
                · exact absurd h1 (by decide)
                · exact ⟨h2, h3⟩
              · exact ⟨.inr ⟨h1, h2, h⟩, h.cell⟩)
            generalize hS : (ByteArray.mk (47 :: (a ++ [47])).toArray) = S at hc hs1 hs2 hl1 hl2 hl3 hcm hyy
            generalize hT : (ByteArray.mk (a ++ [47]).toArray) = T at hs1 hcut
            generalize hN : (ByteArray.mk a.toArray) = N at hcut hcm hnz hnz0 hyy
            clear hsz hS hN hT
            gi_wp2_with (first | (refine ⟨trivial, (fun h => by cases h), ?_⟩; gi_at_call 100; refine (callsIn_wide.2 (hcut _)).mono ?_; rintro e w' ⟨rfl, k, rfl⟩; obtain ⟨fn, tmps, assign, body, hy, hR⟩ := hyy k) | (refine ⟨(fun h => by cases h), ?_⟩; refine hR.mono ?_; rintro e W' ⟨⟨hpo, rfl, hp', fn2, tmps2, assign2, body2, hy2, hR2⟩ | ⟨hpo, rfl, hp'⟩, hc', hz'⟩; clear hR) | (refine ⟨(fun h => by cases h), ?_⟩; refine hR2.mono ?_; rintro e W'' ⟨rfl, hp''⟩; clear hR2))
            · refine ⟨.inr ⟨by rw [ht0]; simp [bne], hp''⟩, ?_⟩
              rw [hp''.len, hbl]; simp
            · refine bodyPost_ret (results_none rfl _ _ _) rfl ?_
              exact ⟨⟨_, rfl⟩, .inr ⟨by rw [ht0]; simp [bne], _, hp'⟩⟩
          · have hb1 : (ByteArray.mk b.toArray).toList.isEmpty = false := by simpa using hb
            have hb2 : ¬ (ByteArray.mk b.toArray).toList = [] := by simpa using hb
            have hyy := fun k => (hY (wr.drewN k) (47 :: (a ++ 47 :: b)) a (hp.drewN k)).mono (R' := fun e W' => ((partOk a = true ∧ e = .returned (.bool true) ∧ PB w (47 :: (a ++ 47 :: b)) (rec .ready none) W') ∨ (partOk a = false ∧ e = .returned (.bool false) ∧ PB w (47 :: (a ++ 47 :: b)) (rec .done (some .ret)) W')) ∧ W'.cell? ⟨w.heap.size + 1, 0, none⟩ = some (.string (ByteArray.mk (47 :: (a ++ 47 :: b)).toArray)) ∧ W'.frozen? ⟨w.heap.size + 1, 0, none⟩ = false) (fun e W' h => ⟨h, by rcases h with ⟨_, _, h⟩ | ⟨_, _, h⟩ <;> exact h.cell⟩)
            generalize hS : (ByteArray.mk (47 :: (a ++ 47 :: b)).toArray) = S at hc hs1 hs2 hl1 hl2 hl3 hcm hyy
            generalize hT : (ByteArray.mk (a ++ 47 :: b).toArray) = T at hs1 hcut
            generalize hN : (ByteArray.mk a.toArray) = N at hcut hcm hnz hnz0 hyy
            generalize hR0 : (ByteArray.mk b.toArray) = R0 at hcut hadd hb1 hb2 hrs
            generalize hU : (ByteArray.mk (47 :: b).toArray) = U at hadd
            clear hsz hS hN hT hR0
            gi_wp2_with (first | (refine ⟨trivial, (fun h => by cases h), ?_⟩; gi_at_call 100; refine (callsIn_wide.2 (hcut _)).mono ?_; rintro e w' ⟨rfl, k, rfl⟩; obtain ⟨fn, tmps, assign, body, hy, hR⟩ := hyy k) | (refine ⟨(fun h => by cases h), ?_⟩; refine hR.mono ?_; rintro e W' ⟨⟨hpo, rfl, hp'⟩ | ⟨hpo, rfl, hp'⟩, hc', hz'⟩))
            · refine ⟨.inl ⟨b, by rw [ht0, hpo]; simp [bne, hb], by omega, ?_⟩, ?_⟩
              · rw [← hU]; exact hp'.set (47 :: b)
              · rw [← hU, (hp'.set (47 :: b)).len, hbl]; simp; omega
            · refine bodyPost_ret (results_none rfl _ _ _) rfl ?_
              exact ⟨⟨_, rfl⟩, .inr ⟨by rw [ht0, hpo]; rfl, _, hp'⟩⟩
    · have hc := hp.cell.1
      have hz := hp.cell.2
      gi_wp2
      go_end0
      exact ⟨⟨_, rfl⟩, .inr ⟨ht0, _, hp⟩⟩
end Go.Proofs.YtljioepkbbbibaaDoor
