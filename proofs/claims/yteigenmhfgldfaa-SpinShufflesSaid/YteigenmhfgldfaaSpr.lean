/-
  Spr: SameInts of like lists; SpinTurns answers true.
-/
import Derived.Test.YteigenmhfgldfaaSpq
import Derived.Deep.RegionHeld3
namespace Go.Proofs.Yteigenmhfgldfaa
open Go.RowKit Ieee

set_option maxHeartbeats 800000 in
theorem samei_calls (A A' : Option Addr) (l : List Int) (c c' lo hi lo' hi' : Nat) (w : World) (h : RdI w lo hi A l) (h' : RdI w lo' hi' A' l) (hl : l.length ≤ 140737488355328) :
    Calls Try.prog 18 #[.slice A l.length c, .slice A' l.length c'] w fun e w' => e = .returned (.bool true) ∧ ∃ n, w' = w.drewN n := by
  go_enter Try.func18, Try.ntmps18
  go_wp2
  go_loopw [4, 5] (fun r i wr => r = .bool false ∧ ∃ k : Nat, k ≤ l.length ∧ i = .int .i64 (k : Int) ∧ ∃ n, wr = w.drewN n) (fun _ i _ => l.length - (intOf i).toNat)
  case atStart => exact ⟨rfl, 0, Nat.zero_le _, rfl, 0, rfl⟩
  case round =>
    obtain ⟨rfl, k, hk, rfl, n, rfl⟩ := hrel
    by_cases hlt : k < l.length
    · obtain ⟨b, o, rfl, -, -, h0⟩ := h (by omega)
      obtain ⟨b', o', rfl, -, -, h0'⟩ := h' (by omega)
      have hc := h0 k hlt
      have hc' := h0' k hlt
      clear h h' h0 h0'
      generalize l.getD k 0 = x at hc hc'
      have hi1 : ((k : Int) < (l.length : Int)) := by omega
      go_wp2
      go_quiet (fail)
      go_wp2
      go_roundw
      case rel => exact ⟨rfl, k + 1, by omega, by go_num, n + nq, by simp⟩
      case measure => simp [intOf]; omega
    · clear h h'
      go_wp2
      go_ret
      exact ⟨rfl, n, rfl⟩

set_option maxHeartbeats 400000 in
theorem copyi_calls (A : Option Addr) (l : List Int) (c lo hi : Nat) (w : World) (h : RdI w lo hi A l) (hl : l.length ≤ 17592186043904) :
    Calls Try.prog 15 #[.slice A l.length c] w fun e w' => ∃ v, e = .returned v ∧ w'.ownsRow w.heap.size 3 1 v l.length (iv l) ∧ Fr NoB w w' := by
  obtain ⟨i0, hi0, hz0, hz1, hz2⟩ := info_parts info_int
  go_enter Try.func15, Try.ntmps15
  go_wp2_with (at_builtin; refine wpList_append_src _ rfl _ _ 33 rfl w.heap.size 3 i0 (.int .i64 0) 1 8 Try.underlying33 hi0 hz0 hz1 hz2 rfl (by decide) (.slice none 0 0) 0 [] rfl (World.ownsRow_nil _ _ _ _) A l.length c (iv l) rfl (by simp) h.srcs (iv_one l) (by unfold maxLen; omega) (by omega) (Nat.le_refl _) ?_)
  intro v' w' hA
  have h1 := hA.own
  have h2 : Fr NoB w w' := hA.fr.mono fun _ _ h => by simp [Value.ownBlock] at h
  clear hA
  obtain ⟨A2, c2, rfl, _, _⟩ := own_form4 h1
  go_wp2
  go_ret
  exact ⟨_, rfl, h1, h2⟩

theorem samei_n (A A' : Option Addr) (l : List Int) (n c c' lo hi lo' hi' : Nat) (w : World) (hn : l.length = n) (h : RdI w lo hi A l) (h' : RdI w lo' hi' A' l) (hl : n ≤ 140737488355328) :
    Calls Try.prog 18 #[.slice A n c, .slice A' n c'] w fun e w' => e = .returned (.bool true) ∧ ∃ n, w' = w.drewN n := by
  subst hn; exact samei_calls A A' l c c' lo hi lo' hi' w h h' hl

structure Turn (w W : World) (p q : Nat) (t : G) : Prop where
  fr : Fr NoB w W
  sp : SpinAt W p t.1 t.2
  rf : RefAt W q t
  ok : gok t
  p0 : w.heap.size ≤ p
  q0 : w.heap.size ≤ q
  pq : p ≠ q
theorem Turn.nextS {w W W' : World} {p q : Nat} {t : G} (h : Turn w W p q t) (f : Fr (OneB p) W W') : Fr NoB w W' ∧ RefAt W' q t :=
  ⟨h.fr.upE f (fun k hk => by have hk' : k = p := hk; rw [hk']; exact h.p0), h.rf.fr f (fun hx => h.pq (show q = p from hx).symm)⟩

set_option maxRecDepth 8000 in
set_option maxHeartbeats 3200000 in
theorem turns_walk (seed : Int) (D : Option Addr) (a : List Int) (d : Nat) (B : Option Addr) (b : List Int) (e0 : Nat) (w : World) (hD : RdI w 0 w.heap.size D a) (hB : RdI w 0 w.heap.size B b) (hla : a.length ≤ 140737488355328) (hlb : b.length ≤ 140737488355328) :
    Calls Try.prog 6 #[.int .i64 seed, .slice D a.length d, .slice B b.length e0] w fun e w' => e = .returned (.bool true) ∧ Fr NoB w w' := by
  have hA := Lib.hid hD
  have hB' := Lib.hid hB
  have hlai : (a.length : Int) ≤ 140737488355328 := by omega
  have hlbi : (b.length : Int) ≤ 140737488355328 := by omega
  clear hD hB
  by_cases h1 : 300 < a.length
  · have h1i : 300 < (a.length : Int) := by omega
    go_enter Try.func6, Try.ntmps6
    go_wp2_with ((with_reducible refine (awake_calls _).mono ?_); rintro e w1 ⟨rfl, f1⟩)
    go_ret
    exact ⟨rfl, f1⟩
  by_cases h2 : 300 < b.length
  · have h1i : ¬ 300 < (a.length : Int) := by omega
    have h2i : 300 < (b.length : Int) := by omega
    go_enter Try.func6, Try.ntmps6
    go_wp2_with ((with_reducible refine (awake_calls _).mono ?_); rintro e w1 ⟨rfl, f1⟩)
    go_ret
    exact ⟨rfl, f1⟩
  have h1i : ¬ 300 < (a.length : Int) := by omega
  have h2i : ¬ 300 < (b.length : Int) := by omega
  go_enter Try.func6, Try.ntmps6
  go_wp2_with (first | ((with_reducible refine (awake_calls _).mono ?_); rintro e w1 ⟨rfl, f1⟩) | ((with_reducible refine (new_calls seed _).mono ?_); rintro e w2 ⟨p, rfl, hp, hs, f2⟩) | ((with_reducible refine (refnew_calls seed _).mono ?_); rintro e w3 ⟨q, rfl, hq, hr, f3⟩))
  have hpq : p ≠ q := fun hx => by subst hx; have := hs.cells.2.2.2; omega
  have hq0 : w.heap.size ≤ q := by have := f1.size; have := f2.size; omega
  have hp0 : w.heap.size ≤ p := by have := f1.size; omega
  have T0 : Turn w w3 p q (pm seed, 1) := ⟨(f1.then f2).then f3, hs.fr f3 id, hr, ⟨pm_lt _, (by decide : 1 < 524287)⟩, hp0, hq0, hpq⟩
  clear f1 f2 f3 hs hr hp hq
  go_loopw [9] (fun i W => ∃ (k : Nat) (t : G), i = .int .i64 (k : Int) ∧ k ≤ a.length ∧ Turn w W p q t) (fun i _ => a.length - (intOf i).toNat)
  case atStart => exact ⟨0, _, rfl, Nat.zero_le _, T0⟩
  case round =>
    obtain ⟨k, t, rfl, hk, T⟩ := hrel
    clear T0
    by_cases hlt : k < a.length
    · obtain ⟨u, o, rfl, _, hub, h0⟩ := hA.out (by omega)
      have c0 := h0 k hlt
      generalize a.getD k 0 = x at c0
      have HE := Lib.hid (fun W (f : Fr NoB w W) => (f.cell (p := ⟨u, o + k, none⟩) (by simp only; omega) (fun x => x)).trans c0)
      clear h0 c0
      have u0 := HE.out _ T.fr
      have TW := Lib.hid T
      clear T
      have cS := Lib.hid (fun W (h : SpinAt W p t.1 t.2) => next_calls p t.1 t.2 x W h TW.out.ok.1 TW.out.ok.2)
      have cR := Lib.hid (fun W (h : RefAt W q t) => refnext_calls q t x W h TW.out.ok)
      have hki : (k : Int) < (a.length : Int) := by omega
      go_wp2
      go_region_held3 (fun W => W.cell? ⟨u, o + k, none⟩ = some (.int .i64 x)) (first | exact u0 | exact u1 | exact u2) (first
        | (go_at_call 21; refine (cS.out _ (TW.out.sp.fr ((Fr.refl NoB wr).drew) id)).mono ?_; rintro e w2 ⟨rfl, sp2, f2⟩; obtain ⟨F2, R2⟩ := TW.out.nextS f2.undrew; have u1 := HE.out _ F2)
        | (go_at_call 22; refine (cR.out _ R2).mono ?_; rintro e w3 ⟨rfl, rf3, f3⟩; have F3 : Fr NoB w w3 := F2.upE f3 (fun k hk => by have hk' : k = q := hk; rw [hk']; exact TW.out.q0); have u2 := HE.out _ F3; have sp3 := sp2.fr f3 (fun hx => TW.out.pq (show p = q from hx))))
      go_wp2
      go_roundw
      case rel => exact ⟨k + 1, nx t.1 t.2, by go_num, by omega, F3, sp3, rf3, gok_nx _ _, TW.out.p0, TW.out.q0, TW.out.pq⟩
      case measure => simp [intOf]; omega
    · obtain rfl : k = a.length := by omega
      have hle : (shuf (b.length - 1) t b).2.length = b.length := (shuf_ok (b.length - 1) t b T.ok).2
      have hok2 : gok (shuf (b.length - 1) t b).1 := (shuf_ok (b.length - 1) t b T.ok).1
      have hB3 := hB'.out
      have hpl : p < wr.heap.size := T.sp.cells.2.2.2
      have hql : q < wr.heap.size := T.rf.cells.2.2
      have hp0 := T.p0
      have hq0 := T.q0
      have hpq := T.pq
      have ws := T.fr.size
      have c1 := lenti_calls B b e0 0 w.heap.size wr (hB3.fr T.fr (Nat.le_refl _) (fun _ _ _ x => x)) T.fr.size (by omega)
      have c2 := fun W (f : Fr NoB wr W) => copy_calls p t.1 t.2 W (T.sp.fr f id)
      have c3 := fun W A c lo hi (f : Fr NoB wr W) (h : RdI W lo hi A b) => shuffle_calls p t A b c lo hi W (T.sp.fr f id) T.ok h (by omega)
      have c4 := fun W (f : Fr (OneB p) wr W) => refshuffle_calls q t B b e0 0 w.heap.size W (T.rf.fr f (fun hx => hpq (show q = p from hx).symm)) T.ok (hB3.fr (T.fr.upE f (fun k hk => by have hk' : k = p := hk; rw [hk']; exact hp0)) (Nat.le_refl _) (fun _ _ _ x => x)) (by have := f.size; omega) (by omega)
      have F := T.fr
      have TK := T.ok
      generalize hLL : shuf (b.length - 1) t b = R at *
      obtain ⟨R1, R2⟩ := R
      simp only at hle hok2 c3 c4
      have hpB : ∀ k, OneB p k → w.heap.size ≤ k := fun k hk => by have hk' : k = p := hk; rw [hk']; exact hp0
      have hqB : ∀ k, OneB q k → w.heap.size ≤ k := fun k hk => by have hk' : k = q := hk; rw [hk']; exact hq0
      have hnp : ∀ x, x ≠ p → ¬ OneB p x := fun x h1 h2 => h1 h2
      have hnq : ∀ x, x ≠ q → ¬ OneB q x := fun x h1 h2 => h1 h2
      have rB := fun W (f : Fr NoB w W) => hB3.fr f (Nat.le_refl _) (fun _ _ _ x => x)
      have hle8 : b.length ≤ 140737488355328 := hlb
      have hle9 : b.length ≤ 17592186043904 := by omega
      have hle3 : b.length ≤ 300 := by omega
      go_wp2_with (first
        | ((with_reducible refine c1.mono ?_); rintro e wa ⟨A2, c2', rfl, hc2, hc2m, r2, fa⟩; replace F := F.then fa; have sa := fa.size)
        | ((with_reducible refine (c2 _ fa).mono ?_); rintro e wb ⟨p2, rfl, hp2, sp2, fb⟩; have fab := fa.then fb; have r2b := r2.fr fb (Nat.le_refl _) (fun _ _ _ x => x); replace F := F.then fb; have sb := fb.size; have hp2l := sp2.cells.2.2.2; have hp2p : p2 ≠ p := (by omega); have hp2q : p2 ≠ q := (by omega))
        | ((with_reducible refine (c3 _ _ _ _ _ fab r2b.pre).mono ?_); rintro e wc ⟨A3, c3', rfl, r3, sp3, fc⟩; replace F := F.upE fc hpB; have r2c := r2b.fr fc (by omega) (fun k h1 h2 => hnp _ (by omega)); have sp2c := sp2.fr fc (hnp _ hp2p); have sc := fc.size)
        | ((with_reducible refine (c4 _ (fab.no.then fc)).mono ?_); rintro e wd ⟨A4, c4', rfl, r4, rf4, fd⟩; replace F := F.upE fd hqB; have r2d := r2c.fr fd (by omega) (fun k h1 h2 => hnq _ (by omega)); have sp2d := sp2c.fr fd (hnq _ hp2q); have sp3d := sp3.fr fd (hnq _ hpq); have r3d := r3.fr fd (Nat.le_refl _) (fun k h1 h2 => hnq _ (by omega)); have sd := fd.size)
        | ((with_reducible refine (samei_n _ _ _ _ _ _ _ _ _ _ _ hle r5 r4h hle8).mono ?_); rintro e wh ⟨rfl, n2, rfl⟩; have fh := (Fr.refl NoB wg).drewN n2; have sp3h := sp3g.fr fh id; have rf4h := rf4g.fr fh id; replace F := F.then fh)
        | ((with_reducible refine (samei_n _ _ _ _ _ _ _ _ _ _ _ hle r3d r4 hle8).mono ?_); rintro e we ⟨rfl, n1, rfl⟩; have fe := (Fr.refl NoB wd).drewN n1; have r2e := r2d.fr fe (by omega) (fun _ _ _ x => x); have sp2e := sp2d.fr fe id; have sp3e := sp3d.fr fe id; have r4e := r4.fr fe (Nat.le_refl _) (fun _ _ _ x => x); have rf4e := rf4.fr fe id; replace F := F.then fe; have se := fe.size)
        | ((with_reducible refine (kepti_calls _ _ _ _ _ _ _ _ _ _ r2e (by omega) (rB _ F) F.size hle9 hc2).mono ?_); rintro e wf ⟨rfl, ff⟩; replace F := F.then ff; have sp2f := sp2e.fr ff id; have sp3f := sp3e.fr ff id; have r4f := r4e.fr ff (by omega) (fun _ _ _ x => x); have rf4f := rf4e.fr ff id; have sf := ff.size)
        | ((with_reducible refine (shuffle_calls p2 t B b e0 0 w.heap.size _ sp2f TK (rB _ F) hle3).mono ?_); rw [hLL]; rintro e wg ⟨A5, c5', rfl, r5, _, fg⟩; replace F := F.upE fg (fun k hk => (show w.heap.size ≤ k from (show k = p2 from hk) ▸ (by omega))); have sp3g := sp3f.fr fg (fun hx => hp2p (show p = p2 from hx).symm); have rf4g := rf4f.fr fg (fun hx => hp2q (show q = p2 from hx).symm); have r4h := r4f.fr fg (by omega) (fun k h1 h2 hx => (by have hx' : k = p2 := hx; omega)))
        | (go_at_call 21; refine (next_calls p R1.1 R1.2 1000 _ sp3h hok2.1 hok2.2).mono ?_; rintro e wi ⟨rfl, sp3i, fi⟩; replace F := F.upE fi hpB; have rf4i := rf4h.fr fi (fun hx => hpq (show q = p from hx).symm))
        | (go_at_call 22; refine (refnext_calls q R1 1000 _ rf4i hok2).mono ?_; rintro e wj ⟨rfl, rf4j, fj⟩; replace F := F.upE fj hqB))
      all_goals go_ret
      all_goals exact ⟨rfl, F⟩
end Go.Proofs.Yteigenmhfgldfaa
