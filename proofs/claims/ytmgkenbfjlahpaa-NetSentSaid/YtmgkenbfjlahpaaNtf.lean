/-
  Ntf: slices.Delete, Take, Twice.
-/
import Derived.Test.YtmgkenbfjlahpaaNtd
import Derived.Test.YtmgkenbfjlahpaaNte
namespace Go.Proofs.Ytmgkenbfjlahpaa
open Go.RowKit Go.WideMaps Go.Sort

def delRen : Go.Shelf.Ren := ⟨fun | 45 => 35 | n => n, fun | 22 => 34 | 23 => 22 | n => n, fun | n => n⟩
theorem delB : Go.Proofs.SlLaysE.n45 Try.prog delRen := {
  mixed := by kernel_rfl
  f45 := ⟨"slices.Delete[[][]byte,[]byte]", of_decide_eq_true (by kernel_rfl), Try.func35.trans (congrArg some (by kernel_rfl))⟩
  t0 := Try.underlying0
  a0 := Try.isAgg0
  z0 := Try.sizeOf0
  v0 := Try.zeroValue0
  t3 := Try.underlying3
  a3 := Try.isAgg3
  z3 := Try.sizeOf3
  v3 := Try.zeroValue3
  t4 := Try.underlying4
  a4 := Try.isAgg4
  z4 := Try.sizeOf4
  v4 := Try.zeroValue4
  t22 := Try.underlying34
  a22 := Try.isAgg34
  z22 := Try.sizeOf34
  v22 := Try.zeroValue34
  a23 := Try.isAgg22
  z23 := Try.sizeOf22 }

/-- A packet taken out of its row. -/
theorem delete_calls {w : World} {g c : Nat} {ps : List Pk} (i : Nat) (hi : i < ps.length) (h : w.ownsRow 0 22 1 (.slice (some ⟨g, 0, none⟩) ps.length c) ps.length (ps.map Pk.val)) :
    Calls Try.prog 35 #[.slice (some ⟨g, 0, none⟩) ps.length c, .int .i64 (i : Int), .int .i64 ((i + 1 : Nat) : Int)] w fun e w' =>
      e = .returned (.slice (some ⟨g, 0, none⟩) (ps.length - 1) c) ∧ w'.ownsRow 0 22 1 (.slice (some ⟨g, 0, none⟩) (ps.length - 1) c) (ps.length - 1) ((ps.eraseIdx i).map Pk.val) ∧ Fr (OneB g) w w' := by
  obtain ⟨i0, hi0, hz0, hz1, hz2⟩ := info_parts info_rows
  obtain ⟨cur, h0, hb, hn, hc, hs, ht⟩ := own_block h
  rw [Nat.mul_one] at ht hs
  have hd := AnyE.slices_Delete delB Pk.val (fun _ => rfl) default (by intro w; rw [pk_default]; exact Try.zeroValue22 w) i0 hi0 hz1 g 0 c i (i + 1) ps.toArray w (holds_of_blockE Pk.val hb ht) (by simpa using hn) (by unfold maxLen at hc; exact hc) (Nat.le_succ i) (by rw [List.size_toArray]; exact hi)
  have hd2 : Calls Try.prog 35 #[.slice (some ⟨g, 0, none⟩) ps.length c, .int .i64 (i : Int), .int .i64 ((i + 1 : Nat) : Int)] w _ := hd
  refine hd2.mono ?_
  rintro e w' ⟨rfl, q, rfl⟩
  have e1 : ps.toArray.size - (i + 1 - i) = ps.length - 1 := by simp
  rw [e1]
  have e2 : (ps.toArray.toList.take i ++ ps.toArray.toList.drop (i + 1) ++ List.replicate (i + 1 - i) default) = ps.eraseIdx i ++ [default] := by
    rw [show i + 1 - i = 1 by omega, List.eraseIdx_eq_take_drop_succ]; rfl
  rw [e2]
  have e3 : putRow Pk.val (Sort.ahead w q) g 0 (ps.eraseIdx i ++ [default]).toArray = grow (putRow Pk.val (Sort.ahead w q) g 0 (ps.eraseIdx i ++ [default]).toArray) #[] := (grow_empty _).symm
  rw [e3]
  have hel : (ps.eraseIdx i).length = ps.length - 1 := List.length_eraseIdx_of_lt hi
  refine ⟨rfl, ⟨by simp [hel], .inr ⟨g, c, _, rfl, h0, heap_putE Pk.val _ hb, by omega, hc, by simp [putCells, hs], ?_⟩⟩, fr_putE Pk.val _⟩
  rw [Nat.mul_one, ← hel, take_putCellsE Pk.val cur (ps.eraseIdx i ++ [default]) _ (by simp) (by simp [hel]; omega), List.take_left]

/-- The packet at a place of a bag: no other packet lies where it lies. -/
theorem NetS.take_apart {w : World} {p bm N : Nat} {rb : Lk → Value} {V : PkV} (h : NetS w p bm N rb V) {k : Lk} {n : Nat} (hn : n < (bag V k).length) :
    ∃ x, (bag V k)[n]? = some x ∧ (k, x) ∈ V ∧ ∀ y ∈ dropL V k n, ∀ g, x.val.ownBlock = some g → y.2.val.ownBlock ≠ some g := by
  cases hp : placeL V k n with
  | none => have := (place_none V k n).1 hp; omega
  | some i =>
    obtain ⟨hi, hd, x, hx, hb⟩ := place_some V k n i hp
    refine ⟨x, hb, List.mem_of_getElem? hx, fun y hy g hg => ?_⟩
    rw [hd] at hy
    have hv : V = V.take i ++ (k, x) :: V.drop (i + 1) := by
      have h1 : V[i] = (k, x) := by rw [List.getElem?_eq_getElem hi] at hx; exact Option.some.inj hx
      rw [← h1, List.getElem_cons_drop, List.take_append_drop]
    have ha := h.apart
    rw [hv, List.pairwise_append] at ha
    rcases List.mem_append.1 hy with hy | hy
    · exact fun e => ha.2.2 y hy (k, x) (by simp) g e hg
    · exact (List.pairwise_cons.1 ha.2.1).1 y hy g hg

/-- The net without a packet. -/
theorem NetS.take {w w' : World} {p bm N N' : Nat} {rb : Lk → Value} {V : PkV} (h : NetS w p bm N rb V) {k : Lk} {n g c : Nat} (hn : n < (bag V k).length) (hrb : rb k = .slice (some ⟨g, 0, none⟩) (bag V k).length c)
    (f : Fr (fun x => x = bm ∨ x = g) w w') (hmap : MapF w' bm N' (upd (rowsF rb V) k (if (bag V k).length = 1 then none else some (.slice (some ⟨g, 0, none⟩) ((bag V k).length - 1) c))))
    (hown : w'.ownsRow 0 22 1 (.slice (some ⟨g, 0, none⟩) ((bag V k).length - 1) c) ((bag V k).length - 1) (((bag V k).eraseIdx n).map Pk.val)) :
    NetS w' p bm N' (updR rb k (.slice (some ⟨g, 0, none⟩) ((bag V k).length - 1) c)) (dropL V k n) ∧ ∀ x, NetO p bm (updR rb k (.slice (some ⟨g, 0, none⟩) ((bag V k).length - 1) c)) (dropL V k n) x → NetO p bm rb V x := by
  have hne : bag V k ≠ [] := fun e => by rw [e] at hn; simp at hn
  have hbl : (rb k).ownBlock = some g := by rw [hrb]; rfl
  have hel : (bag (dropL V k n) k).length = (bag V k).length - 1 := by rw [bag_drop_same]; exact List.length_eraseIdx_of_lt hn
  refine NetS.less h (drop_sub V k n) (fun k' => k' = k) (fun k' hk' => bag_drop_other hk' V n) f (fun x hx => hx.imp id fun e => ⟨k, rfl, hne, by rw [hbl, e]⟩) (fun k' hk' => updR_other rb hk' _) ?_ (fun k' hk' _ => ?_)
  · have e : rowsF (updR rb k (.slice (some ⟨g, 0, none⟩) ((bag V k).length - 1) c)) (dropL V k n) = upd (rowsF rb V) k (if (bag V k).length = 1 then none else some (.slice (some ⟨g, 0, none⟩) ((bag V k).length - 1) c)) := by
      funext k'
      unfold rowsF upd
      by_cases hkk : k' = k
      · subst hkk
        rw [if_pos rfl, updR_same]
        by_cases h1 : (bag V k').length = 1
        · rw [if_pos h1, if_pos (List.eq_nil_of_length_eq_zero (by omega))]
        · rw [if_neg h1, if_neg (fun e => by rw [e] at hel; simp at hel; omega)]
      · rw [if_neg hkk, bag_drop_other hkk V n, updR_other rb hkk]
    rw [e]; exact hmap
  · subst hk'
    rw [updR_same, hel, bag_drop_same]
    exact ⟨hown, by rw [hbl]; rfl⟩

set_option maxHeartbeats 800000 in
theorem take_none {w : World} {p B : Nat} {L : List (Lk × List UInt8)} {O : Nat → Prop} (h : NetV w p B L O) {a b : Int} (hk : InR (a, b)) (at' : Int) (ho : at' < 0 ∨ ((bag L (a, b)).length : Int) ≤ at') :
    Calls Try.prog 15 #[.pointer (some ⟨p, 0, none⟩), .int .i64 a, .int .i64 b, .int .i64 at'] w fun e w' => e = .returned (.tuple #[.slice none 0 0, .bool false]) ∧ w = w' := by
  obtain ⟨bm, N, rb, V, h1, h2, rfl, h4, h5⟩ := h
  have hb := bag_calls h1 hk
  have hv := h1.rowV (a, b)
  rw [bag_bytes, List.length_map] at ho
  obtain ⟨A, c, e, -, -⟩ := own_form hv
  rw [e] at hb
  clear h1 hv e h4 h5
  generalize (bag V (a, b)).length = n at hb ho ⊢
  by_cases hneg : at' < 0
  · clear ho
    go_enter Try.func15, Try.ntmps15
    go_wp2_with (first | ((with_reducible refine hb.mono ?_); rintro e w' ⟨rfl, rfl⟩))
    go_ret2
    exact ⟨rfl, rfl⟩
  · have hge : (n : Int) ≤ at' := ho.resolve_left hneg
    clear ho
    go_enter Try.func15, Try.ntmps15
    go_wp2_with (first | ((with_reducible refine hb.mono ?_); rintro e w' ⟨rfl, rfl⟩))
    go_ret2
    exact ⟨rfl, rfl⟩

set_option maxRecDepth 8000 in
set_option maxHeartbeats 3200000 in
theorem take_some {w : World} {p B : Nat} {L : List (Lk × List UInt8)} {O : Nat → Prop} (h : NetV w p B L O) (hB : B < maxLen) {a b : Int} (hk : InR (a, b)) (n : Nat) (hn : n < (bag L (a, b)).length) :
    Calls Try.prog 15 #[.pointer (some ⟨p, 0, none⟩), .int .i64 a, .int .i64 b, .int .i64 (n : Int)] w fun e w' => ∃ x : Pk, e = .returned (.tuple #[x.val, .bool true]) ∧ (bag L (a, b))[n]? = some x.l ∧
      w'.ownsRow 0 5 1 x.val x.l.length (bv x.l) ∧ (∀ g, x.val.ownBlock = some g → O g) ∧ NetV w' p (B + 1) (dropL L (a, b) n) (fun g => O g ∧ x.val.ownBlock ≠ some g) ∧ Fr O w w' := by
  obtain ⟨bm, N, rb, V, h1, h2, rfl, h4, h5⟩ := h
  rw [bag_bytes, List.length_map] at hn
  have hne : bag V (a, b) ≠ [] := fun e => by rw [e] at hn; simp at hn
  have hb := bag_calls h1 hk
  have hrow := h1.row _ hne
  have hrv : rowV rb V (a, b) = rb (a, b) := by unfold rowV rowsF; rw [if_neg hne]; rfl
  obtain ⟨g, c, hrb⟩ := own_some hrow (by omega)
  rw [hrv, hrb] at hb
  rw [hrb] at hrow
  obtain ⟨x, hx, hxV, hxa⟩ := h1.take_apart hn
  have hblk := h1.rowd (a, b) g hne (by rw [hrb]; rfl)
  have hcell : w.cell? ⟨g, n, none⟩ = some x.val := by
    have := hrow.cells (g := g) rfl n x.val (by rw [List.getElem?_map, hx]; rfl)
    rwa [Lib.addr_add, Nat.zero_add] at this
  have hc := h1.cell
  have hpb := h1.pbm
  have hlt : p < w.heap.size := Lib.lt_of_heap h1.box
  have hdel := delete_calls n hn hrow
  rw [show ((n + 1 : Nat) : Int) = (n : Int) + 1 by push_cast; rfl] at hdel
  have hxo := h1.pk _ hxV
  have hxd := h1.pkd _ hxV
  have hm := h1.map
  have h32 := h1.most (a, b)
  have H1 := Lib.hid h1
  have H4 := Lib.hid h4
  have H5 := Lib.hid h5
  have HX := Lib.hid hx
  have HXA := Lib.hid hxa
  have HXO := Lib.hid hxo
  have HXD := Lib.hid hxd
  have HRB := Lib.hid hrb
  have HM := Lib.hid hm
  have HBK := Lib.hid hblk
  have HN := Lib.hid hn
  have HPB := Lib.hid hpb
  clear h1 h4 h5 hx hxV hxa hxo hxd hrb hm hblk hrow hrv hne hpb
  obtain ⟨xA, xc, xl⟩ := x
  simp only [Pk.val] at hcell
  obtain ⟨m, hme⟩ : ∃ m, (bag V (a, b)).length = m := ⟨_, rfl⟩
  rw [hme] at hb hdel hn h32
  have HME := Lib.hid hme
  have hni : (n : Int) < (m : Int) := by omega
  have hn0 : ¬ (n : Int) < 0 := by omega
  have hnw : wrap64 ((n : Int) + 1) = (n : Int) + 1 := by unfold wrap64; omega
  clear hme
  obtain ⟨m1, hm1⟩ : ∃ m1, m - 1 = m1 := ⟨_, rfl⟩
  rw [hm1] at hdel
  have HM1 := Lib.hid hm1
  clear hm1
  go_enter Try.func15, Try.ntmps15
  go_wp2_with (first | ((with_reducible refine hb.mono ?_); rintro e w' ⟨rfl, rfl⟩) | fail)
  refine hdel.mono ?_
  rintro e w2 ⟨rfl, hown2, f2⟩
  have hc2 : w2.cell? ⟨p, 0, none⟩ = some (.map (some bm)) := (f2.cell (p := ⟨p, 0, none⟩) hlt (fun e => HBK.out.1 (show p = g from e).symm)).trans hc
  obtain ⟨w3, hput, hm3, f3⟩ := (HM.out.fr f2 (fun e => HBK.out.2.1 (show bm = g from e).symm)).put (Nat.lt_of_le_of_lt h2 hB) hk (.slice (some ⟨g, 0, none⟩) m1 c)
  have hc3 : w3.cell? ⟨p, 0, none⟩ = some (.map (some bm)) := (f3.cell (p := ⟨p, 0, none⟩) (World.block_lt_of_cell? _ _ hc2) (fun e => HPB.out e)).trans hc2
  have hown3 := ownBlock_kept hown2 f3 (fun x hx e => HBK.out.2.1 (by cases hx; exact e))
  have F3 := Lib.hid (show Fr (fun x => x = bm ∨ x = g) w w3 from (f2.mono fun x _ e => .inr e).then (f3.mono fun x _ e => .inl e))
  have HOWN3 := Lib.hid hown3
  have hfin : ∀ w4, Fr (OneB bm) w3 w4 → MapF w4 bm (N + 1) (upd (rowsF rb V) (a, b) (if m = 1 then none else some (.slice (some ⟨g, 0, none⟩) m1 c))) → 
      w4.ownsRow 0 5 1 (Value.slice xA xl.length xc) xl.length (bv xl) ∧ NetV w4 p (B + 1) (dropL (bytesV V) (a, b) n) (fun x => O x ∧ (Value.slice xA xl.length xc).ownBlock ≠ some x) ∧ Fr O w w4 := fun w4 f4 hm4 => by
    have F4 := F3.out.then (f4.mono fun x _ e => .inl e)
    have hme := HME.out
    have hs := NetS.take (N' := N + 1) (c := c) (n := n) (g := g) (w' := w4) H1.out HN.out HRB.out F4 (by rw [hme, HM1.out]; exact hm4) (by rw [hme, HM1.out]; exact ownBlock_kept HOWN3.out f4 (fun x hx e => HBK.out.2.1 (by cases hx; exact e)))
    have hO : ∀ x, NetO p bm (updR rb (a, b) (.slice (some ⟨g, 0, none⟩) ((bag V (a, b)).length - 1) c)) (dropL V (a, b) n) x → O x ∧ (Value.slice xA xl.length xc).ownBlock ≠ some x := fun x hx => by
      refine ⟨H4.out x (hs.2 x hx), fun e => ?_⟩
      obtain ⟨r1, r2, r3⟩ := HXD.out x e
      rcases hx with e1 | e1 | ⟨k', hk', e1⟩ | ⟨y, hy, e1⟩
      · exact r1 e1
      · exact r2 e1
      · by_cases hkk : k' = (a, b)
        · subst hkk
          rw [updR_same] at e1
          exact r3 (a, b) (fun e2 => by have := HN.out; rw [e2] at this; simp at this) (by rw [HRB.out]; exact e1)
        · rw [updR_other rb hkk] at e1
          rw [bag_drop_other hkk V n] at hk'
          exact r3 k' hk' e1
      · exact HXA.out y hy x e e1
    refine ⟨ownBlock_kept HXO.out F4 (fun x hx e => ?_), ⟨bm, N + 1, _, _, hs.1, Nat.succ_le_succ h2, (drop_bytes V (a, b) n).symm, hO, fun x hx => Nat.lt_of_lt_of_le (H5.out x hx.1) F4.size⟩, F4.mono fun x _ e => ?_⟩
    · obtain ⟨r1, r2, r3⟩ := HXD.out x hx
      rcases e with e | e
      · exact r2 e
      · exact r3 (a, b) (fun e2 => by have := HN.out; rw [e2] at this; simp at this) (by rw [HRB.out, e]; rfl)
    · rcases e with e | e
      · exact H4.out x (.inr (.inl e))
      · exact H4.out x (.inr (.inr (.inl ⟨(a, b), fun e2 => by have := HN.out; rw [e2] at this; simp at this, by rw [HRB.out, e]; rfl⟩)))
  have HFIN := Lib.hid hfin
  have hgO : ∀ x, (Value.slice xA xl.length xc).ownBlock = some x → O x := fun x hx => H4.out x (.inr (.inr (.inr ⟨_, bag_mem.1 (List.mem_of_getElem? HX.out), hx⟩)))
  have HGO := Lib.hid hgO
  clear hfin hgO hown3 f2 f3 hown2 hdel
  by_cases h0 : m1 = 0
  · subst h0
    obtain ⟨w4, hr4, hm4, f4⟩ := hm3.del hk 0
    have hr4' : ∀ ty, (Builtin.delete_ #[48, 52] ty #[.map (some bm), .agg #[.int .i64 a, .int .i64 b]]).run Try.prog w3 = .ok (.tuple #[]) w4 := fun ty => hr4
    have hup : upd (upd (rowsF rb V) (a, b) (some (.slice (some ⟨g, 0, none⟩) 0 c))) (a, b) none = upd (rowsF rb V) (a, b) (if m = 1 then none else some (.slice (some ⟨g, 0, none⟩) 0 c)) := by
      rw [if_pos (by have := HM1.out; omega)]
      funext x; unfold upd; split <;> rfl
    rw [hup] at hm4
    have HZ := Lib.hid (HFIN.out w4 f4 hm4)
    clear hm4 f4 hup hr4 hm3
    go_wp2
    go_ret2
    exact ⟨⟨xA, xc, xl⟩, rfl, by rw [bag_bytes, List.getElem?_map, HX.out]; rfl, HZ.out.1, HGO.out, HZ.out.2⟩
  · have hi0 : ((m1 : Int) == 0) = false := by rw [beq_eq_false_iff_ne]; omega
    rw [show some (Value.slice (some ⟨g, 0, none⟩) m1 c) = (if m = 1 then none else some (.slice (some ⟨g, 0, none⟩) m1 c)) by rw [if_neg (by have := HM1.out; omega)]] at hm3
    have HZ := Lib.hid (HFIN.out w3 (Fr.refl _ _) hm3)
    clear hm3
    go_wp2
    go_ret2
    exact ⟨⟨xA, xc, xl⟩, rfl, by rw [bag_bytes, List.getElem?_map, HX.out]; rfl, HZ.out.1, HGO.out, HZ.out.2⟩

set_option maxHeartbeats 800000 in
theorem twice_none {w : World} {p B : Nat} {L : List (Lk × List UInt8)} {O : Nat → Prop} (h : NetV w p B L O) {a b : Int} (hk : InR (a, b)) (at' : Int) (ho : at' < 0 ∨ ((bag L (a, b)).length : Int) ≤ at') :
    Calls Try.prog 12 #[.pointer (some ⟨p, 0, none⟩), .int .i64 a, .int .i64 b, .int .i64 at'] w fun e w' => e = .returned (.bool false) ∧ w = w' := by
  obtain ⟨bm, N, rb, V, h1, h2, rfl, h4, h5⟩ := h
  have hb := bag_calls h1 hk
  have hv := h1.rowV (a, b)
  rw [bag_bytes, List.length_map] at ho
  obtain ⟨A, c, e, -, -⟩ := own_form hv
  rw [e] at hb
  clear h1 hv e h4 h5
  generalize (bag V (a, b)).length = n at hb ho ⊢
  by_cases hneg : at' < 0
  · have hneg' : ¬ 0 ≤ at' := by omega
    have hd1 : decide (0 ≤ at') = false := decide_eq_false hneg'
    clear ho hneg
    go_enter Try.func12, Try.ntmps12
    go_wp2_with (first | ((with_reducible refine hb.mono ?_); rintro e w' ⟨rfl, rfl⟩))
    go_ret
    exact ⟨rfl, rfl⟩
  · have hge : ¬ at' < (n : Int) := by have := ho.resolve_left hneg; omega
    have hpos : 0 ≤ at' := by omega
    have hd1 : decide (0 ≤ at') = true := decide_eq_true hpos
    have hd2 : decide (at' < (n : Int)) = false := decide_eq_false hge
    clear ho hneg
    go_enter Try.func12, Try.ntmps12
    go_wp2_with (first | ((with_reducible refine hb.mono ?_); rintro e w' ⟨rfl, rfl⟩))
    go_ret
    exact ⟨rfl, rfl⟩

set_option maxHeartbeats 800000 in
theorem twice_some {w : World} {p B : Nat} {L : List (Lk × List UInt8)} {O : Nat → Prop} (h : NetV w p B L O) (hB : B < maxLen) {a b : Int} (hk : InR (a, b)) (n : Nat) {l : List UInt8} (hl : (bag L (a, b))[n]? = some l) :
    Calls Try.prog 12 #[.pointer (some ⟨p, 0, none⟩), .int .i64 a, .int .i64 b, .int .i64 (n : Int)] w fun e w' => e = .returned (.bool (sendOk L (a, b) l)) ∧ NetV w' p (B + 1) (sendL L (a, b) l) (fun g => O g ∨ New w w' g) ∧ Fr O w w' := by
  have hsend := fun (A : Option Addr) (c lo hi : Nat) (hr : Rd w lo hi A l) => send_calls h hB hk A l c lo hi hr
  obtain ⟨bm, N, rb, V, h1, h2, rfl, h4, h5⟩ := h
  have hn : n < (bag (bytesV V) (a, b)).length := (List.getElem?_eq_some_iff.1 hl).1
  rw [bag_bytes, List.length_map] at hn
  have hne : bag V (a, b) ≠ [] := fun e => by rw [e] at hn; simp at hn
  have hb := bag_calls h1 hk
  have hrow := h1.row _ hne
  have hrv : rowV rb V (a, b) = rb (a, b) := by unfold rowV rowsF; rw [if_neg hne]; rfl
  obtain ⟨g, c, hrb⟩ := own_some hrow (by omega)
  rw [hrv, hrb] at hb
  rw [hrb] at hrow
  obtain ⟨x, hx, hxV, hxa⟩ := h1.take_apart hn
  have hxl : x.l = l := by rw [bag_bytes, List.getElem?_map, hx] at hl; simpa using hl
  have hcell : w.cell? ⟨g, n, none⟩ = some x.val := by
    have := hrow.cells (g := g) rfl n x.val (by rw [List.getElem?_map, hx]; rfl)
    rwa [Lib.addr_add, Nat.zero_add] at this
  obtain ⟨xA, xc, xl⟩ := x
  simp only at hxl
  subst hxl
  simp only [Pk.val] at hcell
  have hs := hsend xA xc _ _ (own_rd (h1.pk _ hxV))
  clear h1 h4 h5 hx hxV hxa hrow hrb hrv hsend hne hl
  have hni : (n : Int) < ((bag V (a, b)).length : Int) := by omega
  have hn0 : (0 : Int) ≤ (n : Int) := by omega
  have hd1 : decide ((0 : Int) ≤ (n : Int)) = true := decide_eq_true hn0
  have hd2 : decide ((n : Int) < ((bag V (a, b)).length : Int)) = true := decide_eq_true hni
  generalize (bag V (a, b)).length = m at hb hni hn hd2
  go_enter Try.func12, Try.ntmps12
  go_wp2_with (first | ((with_reducible refine hb.mono ?_); rintro e w' ⟨rfl, rfl⟩) | ((with_reducible refine hs.mono ?_); rintro e w' ⟨rfl, hN, hf⟩))
  go_ret
  exact ⟨rfl, hN, hf⟩
end Go.Proofs.Ytmgkenbfjlahpaa
