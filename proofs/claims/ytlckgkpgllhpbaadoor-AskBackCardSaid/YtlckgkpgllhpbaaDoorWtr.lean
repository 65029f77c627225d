/-
  Wtr: the methods of wire.Writer, and NewWriter: what is put stands behind what was put.
-/
import Derived.Test.YtlckgkpgllhpbaaDoorBufw
import Derived.Test.YtlckgkpgllhpbaaDoorBits
namespace Go.Proofs.YtlckgkpgllhpbaaDoor
open Go.RowKit

def Wtr (w : World) (p : Nat) (G : Option Nat) (l : List UInt8) : Prop := WtrV w p G (bv l)
def Put (p : Nat) (G : Option Nat) (l : List UInt8) (w w' : World) : Prop :=
  ∃ G', Wtr w' p G' l ∧ Fr (WF p G) w w' ∧ ∀ k, WF p G' k → WF p G k ∨ w.heap.size ≤ k

theorem Put.refl {p : Nat} {G : Option Nat} {l : List UInt8} {w : World} (h : Wtr w p G l) : Put p G l w w := ⟨G, h, Fr.refl _ _, fun _ hk => .inl hk⟩
theorem Put.of1 {p : Nat} {G : Option Nat} {l : List UInt8} {w w' : World} (h : Put1 p G (bv l) w w') : Put p G l w w' := h
theorem Put.trans {p : Nat} {G G1 : Option Nat} {l : List UInt8} {w w1 w2 : World} (hf : Fr (WF p G) w w1) (hg : ∀ k, WF p G1 k → WF p G k ∨ w.heap.size ≤ k) (h : Put p G1 l w1 w2) : Put p G l w w2 := by
  obtain ⟨G2, h2, f2, g2⟩ := h
  refine ⟨G2, h2, hf.trans f2 fun k hk hw => ?_, fun k hk => ?_⟩
  · rcases hg k hw with h | h
    · exact h
    · omega
  · rcases g2 k hk with h | h
    · exact hg k h
    · exact .inr (Nat.le_trans hf.size h)
theorem Put.cast {p : Nat} {G : Option Nat} {l l' : List UInt8} {w w' : World} (h : Put p G l w w') (e : l = l') : Put p G l' w w' := e ▸ h

theorem byte_put (p : Nat) (G : Option Nat) (l : List UInt8) (x : UInt8) (v : Int) (w : World) (h : Wtr w p G l) (hlim : l.length + 1 ≤ 140737488355328) (hv : v = (x.toNat : Int)) :
    Calls Tryd.prog 59 #[.pointer (some ⟨p, 0, none⟩), .int .u8 v] w fun e w' => e = .returned .nilIface ∧ Put p G (l ++ [x]) w w' := by
  subst hv
  refine (writeByte p G (bv l) x.toNat w h (bv_one l) (by simpa using hlim)).mono ?_
  rintro e w' ⟨rfl, q⟩
  refine ⟨rfl, Put.of1 ?_⟩
  rw [bv_append]; exact q

set_option maxHeartbeats 400000 in
theorem wNew (w : World) : Calls Tryd.prog 26 #[] w fun e w' => e = .returned (.pointer (some ⟨w.heap.size, 0, none⟩)) ∧ Wtr w' w.heap.size none [] ∧ Fr NoB w w' ∧ w'.heap.size = w.heap.size + 1 := by
  go_enter Tryd.func26, Tryd.ntmps26
  go_wp2
  go_ret
  exact ⟨rfl, WtrV.new w, (Fr.refl _ _).alloc _, by simp⟩

set_option maxHeartbeats 400000 in
theorem wByte (p : Nat) (G : Option Nat) (l : List UInt8) (x : UInt8) (w : World) (h : Wtr w p G l) (hlim : l.length + 1 ≤ 140737488355328) :
    Calls Tryd.prog 27 #[.pointer (some ⟨p, 0, none⟩), .int .u8 x.toNat] w fun e w' => e = .returned (.tuple #[]) ∧ Put p G (l ++ [x]) w w' := by
  go_enter Tryd.func27, Tryd.ntmps27
  go_wp2_with (go_at_call 59; refine (byte_put p G l x _ _ h hlim rfl).mono ?_; rintro e w' ⟨rfl, q⟩)
  go_end0
  exact ⟨rfl, q⟩

set_option maxHeartbeats 800000 in
theorem wInt (p : Nat) (G : Option Nat) (l : List UInt8) (n : Int) (w : World) (h1 : -9223372036854775808 ≤ n) (h2 : n ≤ 9223372036854775807) (h : Wtr w p G l) (hlim : l.length + 10 ≤ 140737488355328) :
    Calls Tryd.prog 44 #[.pointer (some ⟨p, 0, none⟩), .int .i64 n] w fun e w' => e = .returned (.tuple #[]) ∧ Put p G (l ++ intB n) w w' := by
  have hz := zig_bits n h1 h2
  have hzl := zig_lt h1 h2
  have HR : Hid (intB n = b128 9 (zig n)) := rfl
  have hlen := (intB_len n).2
  generalize zig n = U at hz hzl HR
  generalize intB n = r at HR hlen ⊢
  go_enter Tryd.func44, Tryd.ntmps44
  go_wp2
  clear hz
  go_loopw [4] (fun u wr => ∃ (V f : Nat) (pre : List UInt8) (G1 : Option Nat), u = .int .u64 (V : Int) ∧ V < 18446744073709551616 ∧ V < 128 ^ (f + 1) ∧ pre ++ b128 f V = r ∧ Wtr wr p G1 (l ++ pre) ∧ Fr (WF p G) w wr ∧ ∀ k, WF p G1 k → WF p G k ∨ w.heap.size ≤ k) (fun u _ => (intOf u).toNat)
  case atStart => exact ⟨U, 9, [], G, rfl, hzl, by omega, HR.out.symm, by simpa using h, Fr.refl _ _, fun _ hk => .inl hk⟩
  case round =>
    obtain ⟨V, f, pre, G1, rfl, hV, hVf, hpre, hW, hF, hG⟩ := hrel
    have hpl : pre.length + (b128 f V).length = r.length := by rw [← hpre]; simp
    have hbl := b128_len f V
    have hp10 : pre.length + 1 ≤ 10 := by omega
    clear hbl
    by_cases hlt : V < 128
    · have hd : decide ((127 : Int) < (V : Int)) = false := by simp; omega
      have HP := Lib.hid hpre
      clear hpre hpl
      go_wp2_with (go_at_call 59; refine (byte_put p G1 (l ++ pre) (UInt8.ofNat V) _ _ hW (by simp; omega) ?_).mono ?_)
      · simp only [UInt8.toNat_ofNat']; omega
      rintro e w' ⟨rfl, q⟩
      go_wp2
      go_end0
      refine ⟨rfl, (Put.trans hF hG q).cast ?_⟩
      rw [← HP.out, b128_lt hlt, List.append_assoc]
    · have hd : decide ((127 : Int) < (V : Int)) = true := by simp; omega
      obtain ⟨f, rfl⟩ : ∃ f', f = f' + 1 := by
        cases f with
        | zero => simp at hVf; omega
        | succ f => exact ⟨f, rfl⟩
      rw [b128_ge (by omega)] at hpre
      have HP := Lib.hid hpre
      have HVf := Lib.hid hVf
      clear hpre hpl hVf
      go_wp2_with (go_at_call 59; refine (byte_put p G1 (l ++ pre) (UInt8.ofNat (V % 128 + 128)) _ _ hW (by simp; omega) ?_).mono ?_)
      · exact u8_or128 V
      rintro e w' ⟨rfl, q⟩
      go_wp2
      go_roundw
      case rel =>
        obtain ⟨G2, q1, q2, q3⟩ := Put.trans hF hG q
        exact ⟨V / 128, f, pre ++ [UInt8.ofNat (V % 128 + 128)], G2, by go_num, by omega, by have := HVf.out; rw [Nat.pow_succ] at this; exact Nat.div_lt_of_lt_mul (by omega), by rw [← HP.out]; simp, by simpa using q1, q2, q3⟩
      case measure => simp [intOf]; omega

theorem Put.next {p : Nat} {G G1 : Option Nat} {l : List UInt8} {w w1 w2 : World} (hf : Fr (WF p G) w w1) (hg : ∀ k, WF p G1 k → WF p G k ∨ w.heap.size ≤ k) (h : Put1 p G1 (bv l) w1 w2) : Put p G l w w2 := Put.trans hf hg h

set_option maxHeartbeats 800000 in
theorem wText (p : Nat) (G : Option Nat) (l : List UInt8) (s : ByteArray) (w : World) (h : Wtr w p G l) (hlim : l.length + s.size + 10 ≤ 140737488355328) :
    Calls Tryd.prog 43 #[.pointer (some ⟨p, 0, none⟩), .string s] w fun e w' => e = .returned (.tuple #[]) ∧ Put p G (l ++ textB s.data.toList) w w' := by
  have hl : s.data.toList.length = s.size := by rw [Array.length_toList]; rfl
  have HT : Hid (textB s.data.toList = intB s.size ++ s.data.toList) := by show _ = _; unfold textB; rw [hl]
  clear hl
  have hil := (intB_len s.size).2
  go_enter Tryd.func43, Tryd.ntmps43
  go_wp2_with (go_at_call 44; refine (wInt p G l s.size _ (by omega) (by omega) h (by omega)).mono ?_)
  rintro e w1 ⟨rfl, G1, h1, f1, g1⟩
  go_wp2_with (go_at_call 85; refine (writeString_any p G1 _ s _ h1 (bv_one _) (by simp; omega)).mono ?_)
  rintro e w2 ⟨rfl, q⟩
  rw [← bv_append] at q
  go_wp2
  go_end0
  exact ⟨rfl, (Put.next f1 g1 q).cast (by rw [HT.out, List.append_assoc])⟩

set_option maxHeartbeats 800000 in
theorem wBytes (p : Nat) (G : Option Nat) (l d : List UInt8) (A : Option Addr) (c lo hi : Nat) (w : World) (h : Wtr w p G l) (hlim : l.length + d.length + 10 ≤ 140737488355328) (hr : Rd w lo hi A d) (hh : hi ≤ w.heap.size) (hpn : ∀ k, lo ≤ k → k < hi → ¬ WF p G k) :
    Calls Tryd.prog 62 #[.pointer (some ⟨p, 0, none⟩), .slice A d.length c] w fun e w' => e = .returned (.tuple #[]) ∧ Put p G (l ++ textB d) w w' := by
  have hil := (intB_len d.length).2
  go_enter Tryd.func62, Tryd.ntmps62
  go_wp2_with (go_at_call 44; refine (wInt p G l d.length _ (by omega) (by omega) h (by omega)).mono ?_)
  rintro e w1 ⟨rfl, G1, h1, f1, g1⟩
  have hr1 := hr.fr f1 hh hpn
  have hh1 : hi ≤ w1.heap.size := Nat.le_trans hh f1.size
  have hp1 : ¬ (lo ≤ p ∧ p < hi) := fun x => hpn p x.1 x.2 (.inl rfl)
  go_wp2_with (go_at_call 94; refine (write_any p G1 _ d A c lo hi _ h1 (bv_one _) (by simp; omega) hr1 hh1 hp1).mono ?_)
  rintro e w2 ⟨rfl, q⟩
  rw [← bv_append] at q
  go_wp2
  go_end0
  exact ⟨rfl, (Put.next f1 g1 q).cast (by rw [textB, List.append_assoc])⟩

theorem map_getD (l : List UInt8) (i : Nat) : (l.map fun x => (x.toNat : Int)).getD i 0 = ((l.getD i 0).toNat : Int) := by
  simp only [List.getD, List.getElem?_map]
  cases l[i]? <;> rfl

/-- Clone: a new slice of the same bytes. -/
theorem clone_any (A : Option Addr) (l : List UInt8) (c lo hi : Nat) (w : World) (hr : Rd w lo hi A l) (hlim : l.length ≤ 140737488355328) :
    Calls Tryd.prog 66 #[.slice A l.length c] w fun e w' => ∃ v, e = .returned v ∧ w'.ownsRow w.heap.size 5 1 v l.length (bv l) ∧ Below w.heap.size w w' := by
  cases l with
  | nil =>
    cases A with
    | none =>
      refine (Tryd.bytes_Clone_nil 0 c w).mono ?_
      rintro e w' ⟨rfl, rfl⟩
      exact ⟨_, rfl, World.ownsRow_nil _ _ _ _, Below.refl _ _⟩
    | some a =>
      refine (Tryd.bytes_Clone_at a 0 c [] w rfl (by omega) (fun i hi => absurd hi (by omega))).mono ?_
      rintro e w' ⟨v, rfl, h, _, hb⟩
      exact ⟨v, rfl, h, hb⟩
  | cons x l =>
    obtain ⟨b, o, rfl, _, _, hc⟩ := hr (by simp)
    refine (Tryd.bytes_Clone_at ⟨b, o, none⟩ (x :: l).length c ((x :: l).map fun x => (x.toNat : Int)) w (by simp) hlim (fun i hi => ?_)).mono ?_
    · rw [Lib.addr_add, hc i hi, map_getD]
    · rintro e w' ⟨v, rfl, h, _, hb⟩
      refine ⟨v, rfl, ?_, hb⟩
      have e : ((x :: l).map fun x => (x.toNat : Int)).map (Value.int .u8) = bv (x :: l) := by simp [bv]
      rwa [e] at h

theorem wtr_slice {w : World} {p : Nat} {G : Option Nat} {l : List UInt8} (h : Wtr w p G l) :
    ∃ A c lr, w.heap[p]? = some (.cells #[.slice A l.length c, .int .i64 0, .int .i8 lr] 97 (0, 0)) ∧ l.length ≤ c ∧ c ≤ maxLen ∧ Rd w 0 w.heap.size A l := by
  obtain ⟨lr, h | ⟨g, cap, cur, rfl, h1, h2, h3, h4, h5, h6, h7, h8⟩⟩ := h
  · obtain ⟨rfl, he, h⟩ := h
    have : l = [] := by cases l with | nil => rfl | cons x l => simp [bv] at he
    subst this
    exact ⟨none, 0, lr, h, by simp, by unfold maxLen; omega, Rd.nil _ _ _ _⟩
  · rw [bv_length] at h3 h5 h8
    refine ⟨_, cap, lr, h3, h5, h6, fun _ => ⟨g, 0, rfl, Nat.zero_le _, Lib.lt_of_heap h4, fun i hi => ?_⟩⟩
    have := Lib.cells_of_row h4 l.length i _ (by rw [h8]; exact bv_get l i hi)
    rwa [Lib.addr_add] at this

set_option maxHeartbeats 800000 in
theorem wDone (p : Nat) (G : Option Nat) (l : List UInt8) (w : World) (h : Wtr w p G l) (hlim : l.length ≤ 140737488355328) :
    Calls Tryd.prog 30 #[.pointer (some ⟨p, 0, none⟩)] w fun e w' => ∃ v, e = .returned v ∧ w'.ownsRow w.heap.size 5 1 v l.length (bv l) ∧ Below w.heap.size w w' := by
  obtain ⟨A, c, lr, hp, hc, hm, hr⟩ := wtr_slice h
  go_enter Tryd.func30, Tryd.ntmps30
  go_wp2_with (go_at_call 67; refine (buf_bytes p A l.length c lr _ hc hm hp).mono ?_)
  rintro e w1 ⟨rfl, k, hk⟩
  have hr1 : Rd w1 0 w.heap.size A l := by rw [hk]; exact hr
  have hb : Below w.heap.size w w1 := by rw [hk]; exact ⟨rfl, rfl, rfl, Nat.le_refl _, fun _ _ => rfl⟩
  have HS : Hid (w1.heap.size = w.heap.size) := by show _ = _; rw [hk]; rfl
  clear hk hr hp
  go_wp2_with (go_at_call 66; refine (clone_any A l c 0 _ _ hr1 hlim).mono ?_)
  rintro e w2 ⟨v, rfl, h2, b2⟩
  obtain ⟨A2, c2, rfl, _, _⟩ := own_form h2
  rw [HS.out] at h2 b2
  go_wp2
  go_ret
  exact ⟨_, rfl, h2, hb.trans b2⟩

end Go.Proofs.YtlckgkpgllhpbaaDoor
