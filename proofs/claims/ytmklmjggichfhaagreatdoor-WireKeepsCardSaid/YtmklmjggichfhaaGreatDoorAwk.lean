/-
  Awk: the statements' own 'awake': a number, a text, a frame, put and read: true.
-/
import Derived.Test.YtmklmjggichfhaaGreatDoorFrn
import Derived.Test.YtmklmjggichfhaaGreatDoorRdb
import Derived.Lib.SlBytesConst
namespace Go.Proofs.YtmklmjggichfhaaGreatDoor
open Go.RowKit

theorem rd_block {w : World} {g : Nat} {cs : Array Value} {t : TypeId} {fr : Nat × Nat} {l : List UInt8} (h : w.heap[g]? = some (.cells cs t fr)) (hl : cs.toList.take l.length = bv l) : Rd w g (g + 1) (some ⟨g, 0, none⟩) l := fun _ =>
  ⟨g, 0, rfl, Nat.le_refl _, Nat.lt_succ_self _, fun i hi => by
    have := Lib.cells_of_row h l.length i _ (by rw [hl]; exact bv_get l i hi)
    rwa [Lib.addr_add] at this⟩

theorem Fr.up {M : Nat → Prop} {w w1 w2 : World} (h : Fr NoB w w1) (h2 : Fr M w1 w2) (hm : ∀ k, M k → w.heap.size ≤ k) : Fr NoB w w2 :=
  h.trans h2 fun k hk hx => absurd (hm k hx) (by omega)
theorem none_up (p : Nat) : ∀ k, WF p none k → p ≤ k := fun k h => by
  rcases h with h | h
  · omega
  · cases h
theorem WF.up {p B n : Nat} {G G' : Option Nat} (h : ∀ k, WF p G k → B ≤ k) (hB : B ≤ n) (g : ∀ k, WF p G' k → WF p G k ∨ n ≤ k) : ∀ k, WF p G' k → B ≤ k := fun k hk => by
  rcases g k hk with x | x
  · exact h k x
  · omega

def awkB : List UInt8 := [129, 1, 4, 97, 98]
def awkN : List UInt8 := [49, 50, 51, 52, 53, 54, 55, 56, 57]
theorem awk_int : rInt (some awkB) = (-65, some [4, 97, 98]) := by decide +kernel
theorem awk_text : rBytes (some [4, 97, 98]) 9 = ([97, 98], some []) := by decide +kernel
theorem awk_crc : (crc awkN).toNat = 3421780262 := by decide +kernel
theorem awk_put : ([] ++ intB (-65)) ++ textB [97, 98] = awkB := by decide +kernel
theorem awk_frame : (frameB awkN).length = 17 := by decide +kernel

set_option maxRecDepth 8000 in
set_option maxHeartbeats 3200000 in
theorem awake_calls (w : World) : Calls Tryz.prog 4 #[] w fun e w' => e = .returned (.bool true) ∧ Fr NoB w w' := by
  have kc := fun (w : World) (C : Array Value) (n c : Nat) => Lib.run_convert_bytes_const (P := Tryz.prog) w 22 5 C n c Tryz.underlying22 Tryz.underlying5
  have kc2 : ∀ (w : World) (C : Array Value) (D : Obj) (n c k : Nat), (convert 22 22 (.slice (some ⟨w.heap.size + 1, 0, none⟩) n c)).run Tryz.prog (((w.alloc D).drewN k).alloc (.cells C 5)) = .ok (.slice (some ⟨w.heap.size + 1, 0, none⟩) n c) (((w.alloc D).drewN k).alloc (.cells C 5 (C.size, C.size + 1))) := fun w C D n c k => by
    have h := Lib.run_convert_bytes_const (P := Tryz.prog) ((w.alloc D).drewN k) 22 5 C n c Tryz.underlying22 Tryz.underlying5
    rw [show ((w.alloc D).drewN k).heap.size = w.heap.size + 1 from by simp] at h
    exact h
  go_enter Tryz.func4, Tryz.ntmps4
  go_wp2_with (go_at_call 6; refine (wNew _).mono ?_; rintro e w1 ⟨rfl, p1, f1, s1⟩; have S1 := Lib.hid s1; clear s1)
  have hp0 : w.heap.size ≤ w.heap.size := Nat.le_refl _
  go_wp2_with (go_at_call 17; refine (wInt _ none [] (-65) _ (by omega) (by omega) p1 (by simp)).mono ?_; rintro e w2 ⟨rfl, G2, p2, f2, g2⟩)
  go_wp2_with (go_at_call 26; refine (wText _ G2 _ ⟨#[97, 98]⟩ _ p2 (by have := (intB_len (-65)).2; have e : (⟨#[97, 98]⟩ : ByteArray).size = 2 := rfl; rw [e]; simp; omega)).mono ?_; rintro e w3 ⟨rfl, G3, p3, f3, g3⟩)
  have P3 : Hid (Wtr w3 w.heap.size G3 awkB) := by have := p3; rw [awk_put] at this; exact this
  have u1 := WF.up (none_up w.heap.size) (Nat.le_of_eq (show w.heap.size + 1 = w1.heap.size from S1.out.symm) |> Nat.le_of_succ_le) g2
  have F2 := Fr.up f1 f2 (none_up w.heap.size)
  have F3 : Hid (Fr NoB w w3) := Fr.up F2 f3 u1
  have W3 : Hid (∀ k, WF w.heap.size G3 k → k < w3.heap.size) := fun k hk => P3.out.lt hk
  clear p1 f1 p2 f2 g2 p3 f3 g3 S1 hp0 F2 u1
  have hrd := fun (W : World) (T : TypeId) => rd_block (l := awkB) (heap_alloc_new W (.cells #[.int .u8 129, .int .u8 1, .int .u8 4, .int .u8 97, .int .u8 98] T)) rfl
  have HR := Lib.hid hrd
  clear hrd
  go_wp2_with (go_at_call 8; refine (rNew_calls _ awkB 5 _ _ _ (HR.out w3 _) (by decide)).mono ?_; rintro e w4 ⟨pr, rfl, q1, q2, q3, q4⟩)
  have hw3 : w.heap.size ≤ w3.heap.size := F3.out.size
  have F4 : Hid (Fr NoB w w4) := F3.out.then (((Fr.refl NoB w3).alloc _).then q3)
  have P4 : Hid (Wtr w4 w.heap.size G3 awkB) := P3.out.fr (((Fr.refl NoB w3).alloc _).then q3) fun _ _ x => x
  have hlt : pr < w4.heap.size := by omega
  have hpr : w3.heap.size ≤ pr := by have := q1; simp at this; omega
  have N4 : Hid (∀ k, WF w.heap.size G3 k → ¬ OneB pr k) := fun k hk h => by have := W3.out k hk; simp only [OneB] at h; omega
  have hlo : (w3.alloc (.cells #[.int .u8 129, .int .u8 1, .int .u8 4, .int .u8 97, .int .u8 98] 5)).heap.size ≤ pr := q1
  clear F3 P3 q3 q4 HR q1
  generalize (w3.alloc (.cells #[.int .u8 129, .int .u8 1, .int .u8 4, .int .u8 97, .int .u8 98] 5)).heap.size = lo at q2 hlo
  have hI := fun W (h : Rdr W lo pr (some awkB)) => rInt_calls lo pr (some awkB) W h
  rw [awk_int] at hI
  have hT := fun W (h : Rdr W lo pr (some [4, 97, 98])) => rText_calls lo pr (some [4, 97, 98]) 9 W h
  rw [awk_text] at hT
  have HI := Lib.hid hI
  have HT := Lib.hid hT
  clear hI hT
  go_wp2_with (first
    | (go_at_call 27; refine (HI.out _ q2).mono ?_; rintro e w5 ⟨rfl, r5, f5, -⟩)
    | (go_at_call 28; refine (HT.out _ r5).mono ?_; rintro e w6 ⟨rfl, r6, f6, -⟩))
  have F6 : Hid (Fr NoB w w6) := (F4.out.up f5 (fun k h => by simp only [OneB] at h; omega)).up f6 (fun k h => by simp only [OneB] at h; omega)
  have P6 : Hid (Wtr w6 w.heap.size G3 awkB) := (P4.out.fr f5 N4.out).fr f6 N4.out
  have hlt6 : pr < w6.heap.size := r6.lt
  clear F4 P4 q2 r5 f5 f6 HI HT hlt
  have hrd9 := fun (W : World) (T : TypeId) (fr : Nat × Nat) => rd_block (l := awkN) (heap_alloc_new W (.cells #[.int .u8 49, .int .u8 50, .int .u8 51, .int .u8 52, .int .u8 53, .int .u8 54, .int .u8 55, .int .u8 56, .int .u8 57] T fr)) rfl
  have HR9 := Lib.hid hrd9
  clear hrd9
  go_wp2_with (go_at_call 9; refine (frame_calls _ awkN 9 _ _ _ (HR9.out w6 _ _) (by simp) (by decide)).mono ?_; rintro e w7 ⟨v7, rfl, o7, f7⟩; rw [awk_frame] at o7; obtain ⟨A7, c7, rfl, _, _⟩ := own_form o7)
  have F7 : Hid (Fr NoB w w7) := F6.out.then (((Fr.refl NoB w6).alloc _).then f7)
  have P7 : Hid (Wtr w7 w.heap.size G3 awkB) := P6.out.fr (((Fr.refl NoB w6).alloc _).then f7) fun _ _ x => x
  have R7 : Hid (Rdr w7 lo pr (some [])) := r6.fr (((Fr.refl NoB w6).alloc _).then f7) (fun _ _ _ x => x) hlo
  clear F6 P6 r6 f7 o7
  have hsame := fun A c lo hi W (h : Rd W lo hi A awkB) A' c' lo' hi' (h' : Rd W lo' hi' A' awkB) => same_calls A A' awkB awkB c c' lo hi lo' hi' W h h' (by decide) (by decide)
  rw [show (awkB == awkB) = true by decide] at hsame
  have hsum := fun A c lo hi W (h : Rd W lo hi A awkN) (hh : hi ≤ W.heap.size) => sum_calls A awkN c lo hi W h hh (by decide)
  rw [awk_crc] at hsum
  have hwh := fun W (h : Rdr W lo pr (some [])) => rWhole_calls lo pr (some []) W h
  rw [show rWhole (some []) = true from rfl] at hwh
  have HWH := Lib.hid hwh
  clear hwh
  have HSA := Lib.hid hsame
  have HSU := Lib.hid hsum
  have hrd5 := fun (W : World) (T : TypeId) (fr : Nat × Nat) => rd_block (l := awkB) (heap_alloc_new W (.cells #[.int .u8 129, .int .u8 1, .int .u8 4, .int .u8 97, .int .u8 98] T fr)) rfl
  have HR5 := Lib.hid hrd5
  clear hsame hsum hrd5
  have hrd92 : ∀ (W : World) (D : Obj) (k : Nat) (T : TypeId) (fr : Nat × Nat), Rd (((W.alloc D).drewN k).alloc (.cells #[.int .u8 49, .int .u8 50, .int .u8 51, .int .u8 52, .int .u8 53, .int .u8 54, .int .u8 55, .int .u8 56, .int .u8 57] T fr)) (W.heap.size + 1) (W.heap.size + 2) (some ⟨W.heap.size + 1, 0, none⟩) awkN := fun W D k T fr => by
    have h := HR9.out ((W.alloc D).drewN k) T fr
    rw [show ((W.alloc D).drewN k).heap.size = W.heap.size + 1 from by simp] at h
    exact h
  have HR92 := Lib.hid hrd92
  clear hrd92
  go_wp2_with (first
    | (go_at_call 16; refine (wDone _ _ _ _ P7.out (by decide)).mono ?_; rintro e w8 ⟨v8, rfl, o8, b8⟩; obtain ⟨A8, c8, rfl, _, _⟩ := own_form o8)
    | (go_at_call 23; refine (HSA.out _ _ _ _ _ ((own_rd o8).keep (fun k _ hk => Below.heap_alloc _ _ k hk)) _ _ _ _ (HR5.out w8 _ _)).mono ?_; rintro e w9 ⟨rfl, n9, rfl⟩)
    | (go_at_call 29; refine (HWH.out _ ((R7.out.fr (Fr.ofBelow (M := NoB) b8) (fun _ _ _ x => x) hlo).fr (((Fr.refl NoB w8).alloc _).drewN n9) (fun _ _ _ x => x) hlo)).mono ?_; rintro e w10 ⟨rfl, rfl⟩)
    | (go_at_call 11; refine (HSU.out _ _ _ _ _ (HR92.out w8 _ n9 _ _) (by simp)).mono ?_; rintro e w11 ⟨rfl, f11⟩))
  go_ret
  exact ⟨rfl, ((F7.out.then (Fr.ofBelow b8)).then ((((Fr.refl NoB w8).alloc _).drewN n9).alloc _)).then f11⟩

end Go.Proofs.YtmklmjggichfhaaGreatDoor
