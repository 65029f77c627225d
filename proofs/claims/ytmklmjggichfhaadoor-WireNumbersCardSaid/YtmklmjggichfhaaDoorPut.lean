/-
  Put: two writers, the program's and the document's, and the statement's 'put', which puts one thing into both.
-/
import Derived.Test.YtmklmjggichfhaaDoorRfw
import Derived.Test.YtmklmjggichfhaaDoorKit
import Derived.Test.YtmklmjggichfhaaDoorAwk
import Derived.Test.YtmklmjggichfhaaDoorDeeds
import Derived.Test.YtmklmjggichfhaaDoorBackp
namespace Go.Proofs.YtmklmjggichfhaaDoor
open Go.RowKit

/-- Two writers that hold the same bytes, made behind w0. -/
structure WW (w0 w : World) (p p' : Nat) (L : List UInt8) (G G' : Option Nat) : Prop where
  a : Wtr w p G L
  b : RWt w p' G' L
  fr : Fr NoB w0 w
  i : ∀ k, WF p G k → w0.heap.size ≤ k
  j : ∀ k, WF p' G' k → w0.heap.size ≤ k
  x : ∀ k, WF p G k → ¬ WF p' G' k
section
variable {w0 w w1 w2 : World} {p p' : Nat} {L L' : List UInt8} {G G' G1 G1' : Option Nat}
theorem WW.mid (h : WW w0 w p p' L G G') (f : Fr (WF p G) w w1) : RWt w1 p' G' L := h.b.fr f fun k hk hk2 => h.x k hk2 hk
theorem WW.next (h : WW w0 w p p' L G G') (a : Wtr w1 p G1 L') (f : Fr (WF p G) w w1) (g : ∀ k, WF p G1 k → WF p G k ∨ w.heap.size ≤ k) (b : RWt w2 p' G1' L') (f2 : Fr (WF p' G') w1 w2) (g2 : ∀ k, WF p' G1' k → WF p' G' k ∨ w1.heap.size ≤ k) : WW w0 w2 p p' L' G1 G1' where
  a := a.fr f2 fun k hk hk2 => by
    rcases g k hk with h1 | h1
    · exact h.x k h1 hk2
    · have := h.b.lt hk2; omega
  b := b
  fr := (h.fr.up f h.i).up f2 h.j
  i := fun k hk => (g k hk).elim (h.i k) (fun x => Nat.le_trans h.fr.size x)
  j := fun k hk => (g2 k hk).elim (h.j k) (fun x => by have := h.fr.size; have := f.size; omega)
  x := fun k hk hk2 => by
    rcases g2 k hk2 with h2 | h2
    · rcases g k hk with h1 | h1
      · exact h.x k h1 h2
      · have := h.b.lt h2; omega
    · have := a.lt hk; omega
theorem WW.keep (h : WW w0 w p p' L G G') (f : Fr NoB w w1) : WW w0 w1 p p' L G G' :=
  ⟨h.a.fr f fun _ _ x => x, h.b.fr f fun _ _ x => x, h.fr.then f, h.i, h.j, h.x⟩
theorem WW.off (h : WW w0 w p p' L G G') : ∀ k, 0 ≤ k → k < w0.heap.size → ¬ WF p G k := fun k _ hk hw => by have := h.i k hw; omega
theorem WW.off' (h : WW w0 w p p' L G G') : ∀ k, 0 ≤ k → k < w0.heap.size → ¬ WF p' G' k := fun k _ hk hw => by have := h.j k hw; omega
theorem WW.rd {B : Option Addr} {l : List UInt8} (h : WW w0 w p p' L G G') (hr : Rd w0 0 w0.heap.size B l) : Rd w 0 w0.heap.size B l := hr.fr h.fr (Nat.le_refl _) fun _ _ _ x => x
end
theorem box_keep {w w2 : World} {cs : Array Value} {t : TypeId} {fr : Nat × Nat} {M : Nat → Prop} (f : Fr M (w.alloc (.cells cs t fr)) w2) (hm : ¬ M w.heap.size) (i : Nat) (v : Value) (hv : cs[i]? = some v) : w2.cell? ⟨w.heap.size, i, none⟩ = some v := by
  rw [Lib.cell_of_heap (f.at_ (heap_alloc_new w _) hm), hv]
theorem mod_byte (m : Int) : m % 256 = ((UInt8.ofNat (m % 256).toNat).toNat : Int) := by
  simp only [UInt8.toNat_ofNat']
  omega

set_option maxRecDepth 8000 in
set_option maxHeartbeats 3200000 in
theorem put_calls (w0 w : World) (p p' : Nat) (L : List UInt8) (G G' : Option Nat) (h0 : WW w0 w p p' L G G') (s m : Int) (B : Option Addr) (l : List UInt8) (c : Nat) (h1 : -9223372036854775808 ≤ m) (h2 : m ≤ 9223372036854775807) (hr : Rd w0 0 w0.heap.size B l) (hlim : L.length + l.length + 10 ≤ 140737488355328) :
    Calls Tryd.prog 41 #[.pointer (some ⟨p, 0, none⟩), .pointer (some ⟨p', 0, none⟩), .agg #[.int .i64 s, .int .i64 m, .slice B l.length c]] w fun e w' => e = .returned (.tuple #[]) ∧ ∃ G2 G2', WW w0 w' p p' (L ++ putB (s, m, l)) G2 G2' := by
  have hK := fun W => pick_calls s 4 W (by omega) (by omega)
  obtain ⟨t, ht⟩ : ∃ t, s % 4 = t := ⟨_, rfl⟩
  have h5 : t = 0 ∨ t = 1 ∨ t = 2 ∨ t = 3 := by omega
  rw [ht] at hK
  have hsz : (⟨l.toArray⟩ : ByteArray).size = l.length := rfl
  have hdl : (⟨l.toArray⟩ : ByteArray).data.toList = l := rfl
  have HC : Hid (∀ W, Rd W 0 w0.heap.size B l → (convert 22 9 (.slice B l.length c)).run Tryd.prog W = .ok (.string ⟨l.toArray⟩) W) := fun W hr => conv_string Tryd.underlying22 Tryd.underlying5 Tryd.underlying9 hr
  have hw0 : ∀ o, WW w0 (w.alloc o) p p' L G G' := fun o => h0.keep ((Fr.refl NoB w).alloc o)
  have HW := Lib.hid hw0
  have HN : Hid (¬ WF p G w.heap.size) := fun h => Nat.lt_irrefl _ (h0.a.lt h)
  have HR := Lib.hid hr
  have hsz0 := h0.fr.size
  clear hw0 h0 hr
  rcases h5 with rfl | rfl | rfl | rfl
  all_goals have HK := Lib.hid hK; clear hK
  · have hP : putB (s, m, l) = [UInt8.ofNat (m % 256).toNat] := by unfold putB; rw [if_pos ht]
    rw [hP]
    have h8 := mod_byte m
    generalize UInt8.ofNat (m % 256).toNat = y at h8 ⊢
    have H8 := Lib.hid h8
    clear h8 hP ht
    go_enter Tryd.func41, Tryd.ntmps41
    go_wp2_with (first
      | (go_at_call 20; refine (HK.out _).mono ?_; rintro e w1 ⟨rfl, rfl⟩)
      | (go_at_call 43; rw [H8.out]; refine (wByte p G L _ _ (HW.out _).a (by omega)).mono ?_; rintro e w2 ⟨rfl, G1, q1, q2, q3⟩; have hbx := box_keep q2 HN.out 1 _ rfl)
      | (go_at_call 58; rw [H8.out]; refine (rwByte p' G' L _ _ ((HW.out _).mid q2) (by omega)).mono ?_; rintro e w3 ⟨rfl, G2, s1, s2, s3⟩))
    go_end0
    exact ⟨rfl, _, _, (HW.out _).next q1 q2 q3 s1 s2 s3⟩
  · have hP : putB (s, m, l) = intB m := by unfold putB; rw [if_neg (by omega), if_pos ht]
    rw [hP]
    clear hP ht
    go_enter Tryd.func41, Tryd.ntmps41
    go_wp2_with (first
      | (go_at_call 20; refine (HK.out _).mono ?_; rintro e w1 ⟨rfl, rfl⟩)
      | (go_at_call 16; refine (wInt p G L m _ h1 h2 (HW.out _).a (by omega)).mono ?_; rintro e w2 ⟨rfl, G1, q1, q2, q3⟩; have hbx := box_keep q2 HN.out 1 _ rfl)
      | (go_at_call 59; refine (rwInt p' G' L m _ h1 h2 ((HW.out _).mid q2) (by omega)).mono ?_; rintro e w3 ⟨rfl, G2, s1, s2, s3⟩))
    go_end0
    exact ⟨rfl, _, _, (HW.out _).next q1 q2 q3 s1 s2 s3⟩
  · have hP : putB (s, m, l) = textB l := by unfold putB; rw [if_neg (by omega), if_neg (by omega)]
    rw [hP]
    clear hP ht
    have hc := fun o => HC.out _ ((HW.out o).rd HR.out)
    go_enter Tryd.func41, Tryd.ntmps41
    go_wp2_with (first
      | (go_at_call 20; refine (HK.out _).mono ?_; rintro e w1 ⟨rfl, rfl⟩)
      | (go_at_call 44; refine (wText p G L ⟨l.toArray⟩ _ (HW.out _).a (by rw [hsz]; omega)).mono ?_; rintro e w2 ⟨rfl, G1, q1, q2, q3⟩; have hbx := box_keep q2 HN.out 2 _ rfl; have hc2 := HC.out _ (((HW.out _).rd HR.out).fr q2 (by simp; omega) (HW.out (.cells #[] 0)).off))
      | (go_at_call 60; refine (rwText p' G' L ⟨l.toArray⟩ _ ((HW.out _).mid q2) (by rw [hsz]; omega)).mono ?_; rintro e w3 ⟨rfl, G2, s1, s2, s3⟩))
    go_end0
    exact ⟨rfl, _, _, (HW.out _).next q1 q2 q3 s1 s2 s3⟩
  · have hP : putB (s, m, l) = textB l := by unfold putB; rw [if_neg (by omega), if_neg (by omega)]
    rw [hP]
    clear hP ht
    go_enter Tryd.func41, Tryd.ntmps41
    go_wp2_with (first
      | (go_at_call 20; refine (HK.out _).mono ?_; rintro e w1 ⟨rfl, rfl⟩)
      | (go_at_call 45; refine (wBytes p G L l B c 0 w0.heap.size _ (HW.out _).a (by omega) ((HW.out _).rd HR.out) (by simp; omega) (HW.out (.cells #[] 0)).off).mono ?_; rintro e w2 ⟨rfl, G1, q1, q2, q3⟩; have hbx := box_keep q2 HN.out 2 _ rfl; have R2 := Lib.hid (((HW.out _).rd HR.out).fr q2 (by simp; omega) (HW.out (.cells #[] 0)).off))
      | (go_at_call 61; refine (rwBytes p' G' L l B c 0 w0.heap.size _ ((HW.out _).mid q2) (by omega) R2.out).mono ?_; rintro e w3 ⟨rfl, G2, s1, s2, s3⟩))
    go_end0
    exact ⟨rfl, _, _, (HW.out _).next q1 q2 q3 s1 s2 s3⟩

end Go.Proofs.YtmklmjggichfhaaDoor
