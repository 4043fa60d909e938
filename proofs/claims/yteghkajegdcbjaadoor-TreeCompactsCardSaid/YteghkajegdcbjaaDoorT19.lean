/-
  slices.Insert: an operation among the others.
-/
import Derived.Test.YteghkajegdcbjaaDoorT15
import Derived.Test.YteghkajegdcbjaaDoorM4
import Derived.Maps.AppendAt
import Derived.Laws.Externs
import Derived.Lib.Overlaps
import Derived.Shelf.RegionOpenPlain
import Derived.Shelf.Spec.SlicesInsert
import Derived.Deep.RegionLaw
namespace Go.Proofs.YteghkajegdcbjaaDoor
open Go.RowKit
set_option maxRecDepth 100000
set_option maxHeartbeats 1000000

theorem flatO_one (o : Opn) : ∀ u ∈ o.cs, u.oneCell' = true := by
  intro u hu
  simp [Opn.cs] at hu
  rcases hu with rfl | rfl | rfl | rfl | rfl | rfl | rfl | rfl | rfl <;> rfl
theorem flatO_ones (l : List Opn) : ∀ u ∈ flatO l, u.oneCell' = true := by
  intro u hu
  simp only [flatO, List.mem_flatMap] at hu
  obtain ⟨o, _, ho⟩ := hu
  exact flatO_one o u ho
theorem flatO_app (a b : List Opn) : flatO (a ++ b) = flatO a ++ flatO b := by simp [flatO]
theorem flatO_cons (o : Opn) (b : List Opn) : flatO (o :: b) = o.cs ++ flatO b := by simp [flatO]
theorem flatO_take (l : List Opn) (k : Nat) (h : k ≤ l.length) : flatO (l.take k) = (flatO l).take (k * 9) := by
  have h1 : flatO l = flatO (l.take k) ++ flatO (l.drop k) := by rw [← flatO_app, List.take_append_drop]
  have h2 : (flatO (l.take k)).length = k * 9 := by rw [flatO_length, List.length_take, Nat.min_eq_left h]
  rw [h1, List.take_left' h2]
theorem flatO_drop (l : List Opn) (k : Nat) (h : k ≤ l.length) : flatO (l.drop k) = (flatO l).drop (k * 9) := by
  have h1 : flatO l = flatO (l.take k) ++ flatO (l.drop k) := by rw [← flatO_app, List.take_append_drop]
  have h2 : (flatO (l.take k)).length = k * 9 := by rw [flatO_length, List.length_take, Nat.min_eq_left h]
  rw [h1, List.drop_left' h2]

def Inserted (sv : Value) (l : List Opn) (k : Nat) (o : Opn) (w : World) (e : Ending) (w' : World) : Prop :=
  ∃ sv', e = .returned sv' ∧ OpsAt w' sv' (l.take k ++ o :: l.drop k) ∧ Fr sv.ownBlock.toList w w' ∧ (sv'.ownBlock = sv.ownBlock ∨ sv'.ownBlock = some w.heap.size)

theorem insert_end (w : World) (sv : Value) (l : List Opn) (o : Opn) (vb : Nat) (h : OpsAt w sv l) (hv : Blk w vb o.cs 30) (hs : l.length ≤ 100000) :
    Calls Tryd.prog 42 #[sv, .int .i64 l.length, .slice (some ⟨vb, 0, none⟩) 1 1] w (Inserted sv l l.length o w) := by
  have HH := Lib.hid h
  have hcs := h.cases
  have hc : ∀ (j : Nat) (u : Value), o.cs[j]? = some u → w.cell? ((⟨vb, 0, none⟩ : Addr).add j) = some u := fun j u hu => by
    rw [Addr.add_lit, Nat.zero_add]
    exact hv.cell j hu
  have HC := Lib.hid hc
  obtain ⟨i0, hi, hz0, hz1, hz2⟩ := info_parts info_op
  have I1 := Lib.hid hi
  have I2 := Lib.hid hz0
  have I3 := Lib.hid hz1
  have I4 := Lib.hid hz2
  clear h hc hi hz0 hz1 hz2
  have H1 := Lib.hid (flatO_one o)
  rcases hcs with ⟨rfl, hn⟩ | ⟨g, cap, rfl⟩
  · subst hn
    go_enter Tryd.func42, Tryd.ntmps42
    go_wp2_with (at_builtin; refine wpList_append_own_at _ rfl _ _ 22 rfl 0 30 i0 _ 9 88 und_ops I1.out I2.out I3.out I4.out rfl (by decide) (.slice none 0 0) 0 [] rfl HH.out ⟨vb, 0, none⟩ 1 1 o.cs rfl rfl HC.out H1.out (by simp [maxLen]) (by omega) (Nat.zero_le _) ?_; intro v' w1 hown' hgrow hnn hbl; clear hnn; have HOW := Lib.hid hown'; have HGR := Lib.hid hgrow; clear hown' hgrow)
    go_ret
    exact ⟨v', rfl, by simpa [OpsAt, flatO] using HOW.out, (Fr.refl _ w).grown HGR.out (fun k e => by simp [Value.ownBlock] at e), hbl⟩
  · go_enter Tryd.func42, Tryd.ntmps42
    go_wp2_with (at_builtin; refine wpList_append_own_at _ rfl _ _ 22 rfl 0 30 i0 _ 9 88 und_ops I1.out I2.out I3.out I4.out rfl (by decide) (.slice (some ⟨g, 0, none⟩) l.length cap) l.length (flatO l) rfl HH.out ⟨vb, 0, none⟩ 1 1 o.cs rfl rfl HC.out H1.out (by simp only [maxLen]; omega) (by omega) (Nat.zero_le _) ?_; intro v' w1 hown' hgrow hnn hbl; clear hnn; have HOW := Lib.hid hown'; have HGR := Lib.hid hgrow; clear hown' hgrow)
    all_goals
      go_ret
      exact ⟨v', rfl, by simpa [OpsAt, flatO] using HOW.out, (Fr.refl _ w).grown HGR.out (fun k e => by simp [Value.ownBlock] at e ⊢; omega), hbl⟩

theorem insert_grow (w : World) (l : List Opn) (o : Opn) (g cap vb k : Nat) (h : OpsAt w (.slice (some ⟨g, 0, none⟩) l.length cap) l) (hv : Blk w vb o.cs 30) (hs : l.length ≤ 100000) (hk : k < l.length) (hcap : cap < l.length + 1) :
    Calls Tryd.prog 42 #[.slice (some ⟨g, 0, none⟩) l.length cap, .int .i64 k, .slice (some ⟨vb, 0, none⟩) 1 1] w (Inserted (.slice (some ⟨g, 0, none⟩) l.length cap) l k o w) := by
  obtain rfl : cap = l.length := by
    rcases h.2 with ⟨h1, _⟩ | ⟨g', c', cur', h1, _, _, h2, _⟩
    · cases h1
    · cases h1; omega
  obtain ⟨i0, hi, hz0, hz1, hz2⟩ := info_parts info_op
  obtain ⟨z, hz, hzs⟩ : ∃ z, i0.zero = some z ∧ z.cells.size = 9 := ⟨_, hz0, rfl⟩
  have hsz : (Tryd.prog.info? 30).map (·.size) = some 9 := by rw [hi]; simp [hz1]
  have h9 : (flatO (l.take k)).length = k * 9 := by rw [flatO_length, List.length_take, Nat.min_eq_left (by omega)]
  have h8 : (flatO (l.drop k)).length = (l.length - k) * 9 := by rw [flatO_length, List.length_drop]
  have hold : (Builtin.firstCells i0.size k (.slice (some ⟨g, 0, none⟩) k l.length)).run Tryd.prog w.drew = .ok (flatO (l.take k)).toArray w.drew := by
    rw [hz1]
    refine run_firstCells_some w.drew 9 k ⟨g, 0, none⟩ k l.length _ h9 (fun j u hu => ?_)
    rw [flatO_take l k (by omega), List.getElem?_take] at hu
    split at hu
    · exact h.cells (g := g) rfl j u hu
    · cases hu
  obtain ⟨c2, hc2⟩ : ∃ c2, grownCap w (k + (l.length + 1 - k)) l.length 30 = c2 := ⟨_, rfl⟩
  have hge := grownCap_ge w (k + (l.length + 1 - k)) l.length 30
  have hle := grownCap_le_maxLen w (k + (l.length + 1 - k)) l.length 30 (by simp only [maxLen]; omega)
  rw [hc2] at hge hle
  have hkk : k + (l.length + 1 - k) = l.length + 1 := by omega
  rw [hkk] at hge hc2
  obtain ⟨cur, hcur⟩ : ∃ cur, ((flatO (l.take k)).toArray ++ Builtin.zeroCells z.cells (l.length + 1 - k) ++ Builtin.zeroCells z.cells (c2 - (l.length + 1))) = cur := ⟨_, rfl⟩
  have hcsz : cur.size = c2 * 9 := by
    rw [← hcur]
    simp only [Array.size_append, List.size_toArray, size_zeroCells, h9]
    rw [show z.cells.size = 9 from hzs, ← Nat.add_mul, ← Nat.add_mul]
    congr 1
    omega
  have htk : cur.toList.take (flatO (l.take k)).length = flatO (l.take k) := by
    rw [← hcur]
    simp only [Array.toList_append, List.append_assoc]
    exact List.take_left
  have hrun : ∀ ty, (Builtin.append_ #[22, 3] ty #[.slice (some ⟨g, 0, none⟩) k l.length, .int .i64 ((l.length : Int) + 1 - k)]).run Tryd.prog w = .ok (.slice (some ⟨w.heap.size, 0, none⟩) (l.length + 1) c2) (w.drew.alloc (.cells cur 30)) := fun ty => by
    have := run_append_grow_zeros w 22 3 ty 30 i0 _ .i64 .i64 und_ops und_int hi hz ⟨g, 0, none⟩ k l.length (flatO (l.take k)) hold (l.length + 1 - k) (by omega) (by omega) (by omega) (by omega) (by omega) (by rw [hz2]; exact growslice_fits (by omega) (by omega)) (by rw [hz2]; omega)
    rw [hkk, hc2, hcur, show ((l.length + 1 - k : Nat) : Int) = (l.length : Int) + 1 - k by omega] at this
    exact this
  clear hcur hold
  obtain ⟨W1, hW1⟩ : ∃ W1, w.drew.alloc (.cells cur 30) = W1 := ⟨_, rfl⟩
  rw [hW1] at hrun
  have hg1 : W1.heap[w.heap.size]? = some (.cells cur 30 (0, 0)) := by rw [← hW1]; exact heap_alloc_new w.drew _
  have hF1 : Fr [] w W1 := by rw [← hW1]; exact (Fr.refl _ w).drew.alloc _
  have hv1 : Blk W1 vb o.cs 30 := hv.of_block (hF1.block _ hv.lt (by simp))
  have h1 : OpsAt W1 (.slice (some ⟨g, 0, none⟩) l.length l.length) l := h.of_block (fun g' hg' => hF1.block _ (h.lt hg') (by simp))
  have hm1 : Nat.min 1 (l.length + 1 - k) = 1 := Nat.min_eq_left (by omega)
  have hm2 : Nat.min (l.length - k) (l.length - k) = l.length - k := Nat.min_eq_left (by omega)
  have hcp1 : ∀ ty dc, (Builtin.copy_ #[22, 22] ty #[.slice (some ⟨w.heap.size, k * 9, none⟩) (l.length + 1 - k) dc, .slice (some ⟨vb, 0, none⟩) 1 1]).run Tryd.prog W1 = .ok (goInt 1) (W1.setRow w.heap.size (splice cur.toList (k * 9) o.cs).toArray) := fun ty dc => by
    have := run_copy_rowK (P := Tryd.prog) W1 22 22 ty 30 9 w.heap.size (k * 9) (l.length + 1 - k) dc ⟨vb, 0, none⟩ 1 1 cur 30 o.cs und_ops hsz hg1 (by rw [hm1]; rfl) (fun j u hu => by rw [Addr.add_lit, Nat.zero_add]; exact hv1.cell j hu) (by rw [hcsz]; simp [Opn.cs]; omega) (flatO_one o)
    rw [hm1] at this
    exact this
  obtain ⟨W2, hW2⟩ : ∃ W2, W1.setRow w.heap.size (splice cur.toList (k * 9) o.cs).toArray = W2 := ⟨_, rfl⟩
  have hg2 : W2.heap[w.heap.size]? = some (.cells (splice cur.toList (k * 9) o.cs).toArray 30 (0, 0)) := by rw [← hW2]; exact setRow_heap W1 w.heap.size cur _ _ _ hg1
  have hF2 : Fr [w.heap.size] W1 W2 := by rw [← hW2]; exact fr_setRow _ _ _
  have hF3 : Fr [] w W2 := hF1.trans' hF2 (fun x hx => Or.inr (by simp at hx; omega))
  have h2 : OpsAt W2 (.slice (some ⟨g, 0, none⟩) l.length l.length) l := h.of_block (fun g' hg' => hF3.block _ (h.lt hg') (by simp))
  have hl2 : (splice cur.toList (k * 9) o.cs).length = c2 * 9 := by rw [length_splice _ _ _ (by simp [Opn.cs, hcsz]; omega)]; simpa using hcsz
  rw [hW2] at hcp1
  have hcp2 : ∀ ty dc sc, (Builtin.copy_ #[22, 22] ty #[.slice (some ⟨w.heap.size, (k + 1) * 9, none⟩) (l.length - k) dc, .slice (some ⟨g, k * 9, none⟩) (l.length - k) sc]).run Tryd.prog W2.drew = .ok (goInt ((l.length - k : Nat) : Int)) (W2.drew.setRow w.heap.size (splice (splice cur.toList (k * 9) o.cs) ((k + 1) * 9) (flatO (l.drop k))).toArray) := fun ty dc sc => by
    have := run_copy_rowK (P := Tryd.prog) W2.drew 22 22 ty 30 9 w.heap.size ((k + 1) * 9) (l.length - k) dc ⟨g, k * 9, none⟩ (l.length - k) sc (splice cur.toList (k * 9) o.cs).toArray 30 (flatO (l.drop k)) und_ops hsz hg2 (by rw [hm2, h8]) (fun j u hu => by
      rw [Addr.add_lit]
      rw [flatO_drop l k (by omega), List.getElem?_drop] at hu
      have h5 := h2.cells (g := g) rfl (k * 9 + j) u hu
      rw [Addr.add_lit, Nat.zero_add] at h5
      exact h5) (by simp only [List.size_toArray]; rw [hl2, h8]; omega) (flatO_ones _)
    rw [hm2] at this
    exact this
  obtain ⟨W3, hW3⟩ : ∃ W3, W2.drew.setRow w.heap.size (splice (splice cur.toList (k * 9) o.cs) ((k + 1) * 9) (flatO (l.drop k))).toArray = W3 := ⟨_, rfl⟩
  have hg3 : W3.heap[w.heap.size]? = some (.cells (splice (splice cur.toList (k * 9) o.cs) ((k + 1) * 9) (flatO (l.drop k))).toArray 30 (0, 0)) := by rw [← hW3]; exact setRow_heap W2.drew w.heap.size _ _ _ _ hg2
  have hF4 : Fr [] w W3 := hF3.trans' (by rw [← hW3]; exact (Fr.refl [w.heap.size] W2).drew.trans (fr_setRow _ _ _)) (fun x hx => Or.inr (by simp at hx; omega))
  rw [hW3] at hcp2
  have hO : OpsAt W3 (.slice (some ⟨w.heap.size, 0, none⟩) (l.length + 1) c2) (l.take k ++ o :: l.drop k) := by
    have e1 : (l.take k ++ o :: l.drop k).length = l.length + 1 := by simp; omega
    refine ⟨by rw [flatO_length], Or.inr ⟨w.heap.size, c2, _, by rw [e1], Nat.zero_le _, hg3, by rw [e1]; exact hge, hle, ?_, ?_⟩⟩
    · simp only [List.size_toArray]
      rw [length_splice _ _ _ (by rw [hl2, h8]; omega), hl2]
    · rw [e1, flatO_app, flatO_cons]
      have := splice3 cur.toList (flatO (l.take k)) o.cs (flatO (l.drop k)) ((l.length + 1) * 9) htk (by rw [h9, h8]; simp [Opn.cs]; omega) (by simp [hcsz]; omega)
      rw [h9] at this
      rw [show k * 9 + o.cs.length = (k + 1) * 9 by simp [Opn.cs]; omega] at this
      exact this
  have HO := Lib.hid hO
  have HF4 := Lib.hid hF4
  have hk1 : (k : Int) < l.length := by omega
  have hk2 : ¬ ((k : Int) = l.length) := by omega
  have hk4 : ¬ (l.length = k) := by omega
  have hk5 : ¬ (c2 = k) := by omega
  have hk6 : ¬ (c2 = k + 1) := by omega
  have hk7 : (k : Int) + 1 ≤ (l.length : Int) + 1 := by omega
  have hk8 : ((k : Int) + 1).toNat = k + 1 := by omega
  have hk9 : (0 : Int) ≤ (k : Int) + 1 := by omega
  have hk10 : (0 : Int) ≤ (k : Int) := by omega
  have hk11 : (k : Int) ≤ (l.length : Int) := by omega
  have hk12 : (k : Int).toNat = k := by omega
  have mixed : Tryd.prog.follows Departure.mixedOrders = true := by kernel_rfl
  have hk3 : (l.length : Int) < (l.length : Int) + 1 := by omega
  have hw1 : IntKind.i64.wrap ((l.length : Int) + 1) = (l.length : Int) + 1 := by rw [IntKind.wrap_i64]; omega
  have hw2 : IntKind.i64.wrap ((k : Int) + 1) = (k : Int) + 1 := by rw [IntKind.wrap_i64]; omega
  have hw3 : IntKind.i64.wrap ((l.length : Int) + 1 - k) = (l.length : Int) + 1 - k := by rw [IntKind.wrap_i64]; omega
  clear hO hF4 hg1 hg2 hg3 hF1 hF2 hF3 h2 h1 hv1 hW1 hW2 hW3 hm1 hm2 htk hcsz hl2 h8 h9
  go_enter Tryd.func42, Tryd.ntmps42
  go_wp2_with (at_builtin; refine Lib.wpList_append_run _ rfl _ _ _ _ rfl _ _ rfl rfl _ _ (hrun _) ?_)
  go_region
  go_wp2
  go_ret
  exact ⟨_, rfl, HO.out, HF4.out.mono (fun x hx => by cases hx), Or.inr rfl⟩

theorem insert_shift (w : World) (l : List Opn) (o : Opn) (g cap vb k : Nat) (h : OpsAt w (.slice (some ⟨g, 0, none⟩) l.length cap) l) (hv : Blk w vb o.cs 30) (hne : vb ≠ g) (hs : l.length ≤ 100000) (hk : k < l.length) (hcap : l.length + 1 ≤ cap) :
    Calls Tryd.prog 42 #[.slice (some ⟨g, 0, none⟩) l.length cap, .int .i64 k, .slice (some ⟨vb, 0, none⟩) 1 1] w (Inserted (.slice (some ⟨g, 0, none⟩) l.length cap) l k o w) := by
  obtain ⟨i0, hi, hz0, hz1, hz2⟩ := info_parts info_op
  have hsz : (Tryd.prog.info? 30).map (·.size) = some 9 := by rw [hi]; simp [hz1]
  have h9 : (flatO (l.take k)).length = k * 9 := by rw [flatO_length, List.length_take, Nat.min_eq_left (by omega)]
  have h8 : (flatO (l.drop k)).length = (l.length - k) * 9 := by rw [flatO_length, List.length_drop]
  obtain ⟨cur, hg0, hmx, hcsz, htl⟩ : ∃ cur : Array Value, w.heap[g]? = some (.cells cur 30 (0, 0)) ∧ cap ≤ maxLen ∧ cur.size = cap * 9 ∧ cur.toList.take (l.length * 9) = flatO l := by
    rcases h.2 with ⟨h1, _⟩ | ⟨g', c', cur', h1, _, h3, h2, h4, h5, h6⟩
    · cases h1
    · cases h1; exact ⟨cur', h3, h4, h5, h6⟩
  have htk : cur.toList.take (flatO (l.take k)).length = flatO (l.take k) := by
    rw [h9, flatO_take l k (by omega), ← htl, List.take_take, Nat.min_eq_left (by omega)]
  have hov : ∀ lb cb, (callFunc 69 #[.slice (some ⟨vb, 0, none⟩) 1 1, .slice (some ⟨g, (k + 1) * 9, none⟩) lb cb]).run Tryd.prog w = .ok (.value (.bool false)) w := fun lb cb => by
    rw [run_callFunc_extern Tryd.func69 (by kernel_rfl) (by kernel_rfl) (by kernel_rfl) (e := Extern.SlicesOverlaps.overlaps #[22, 22] #[4]) (by kernel_rfl),
      Lib.run_overlaps_apart w 22 4 30 und_ops 9 Tryd.sizeOf30 ⟨vb, 0, none⟩ ⟨g, (k + 1) * 9, none⟩ 1 1 lb cb hne 30 30 9 (cap * 9) (by simp [World.shape?, show w.heap[vb]? = _ from hv, Opn.cs]) (by simp [World.shape?, hg0, hcsz]) (by omega) (hv.frozen 0) (hv.frozen 9)]
    rfl
  have hm1 : Nat.min 1 (l.length + 1 - k) = 1 := Nat.min_eq_left (by omega)
  have hm2 : Nat.min (l.length + 1 - k) (l.length - k) = l.length - k := Nat.min_eq_right (by omega)
  have hcp1 : ∀ ty dc sc, (Builtin.copy_ #[22, 22] ty #[.slice (some ⟨g, (k + 1) * 9, none⟩) (l.length - k) dc, .slice (some ⟨g, k * 9, none⟩) (l.length + 1 - k) sc]).run Tryd.prog w.drew = .ok (goInt ((l.length - k : Nat) : Int)) (w.drew.setRow g (splice cur.toList ((k + 1) * 9) (flatO (l.drop k))).toArray) := fun ty dc sc => by
    have := run_copy_rowK (P := Tryd.prog) w.drew 22 22 ty 30 9 g ((k + 1) * 9) (l.length - k) dc ⟨g, k * 9, none⟩ (l.length + 1 - k) sc cur 30 (flatO (l.drop k)) und_ops hsz hg0 (by rw [hm2, h8]) (fun j u hu => by
      rw [Addr.add_lit]
      rw [flatO_drop l k (by omega), List.getElem?_drop] at hu
      have h5 := h.cells (g := g) rfl (k * 9 + j) u hu
      rw [Addr.add_lit, Nat.zero_add] at h5
      exact h5) (by rw [hcsz, h8]; omega) (flatO_ones _)
    rw [hm2] at this
    exact this
  obtain ⟨W1, hW1⟩ : ∃ W1, w.drew.setRow g (splice cur.toList ((k + 1) * 9) (flatO (l.drop k))).toArray = W1 := ⟨_, rfl⟩
  have hg1 : W1.heap[g]? = some (.cells (splice cur.toList ((k + 1) * 9) (flatO (l.drop k))).toArray 30 (0, 0)) := by rw [← hW1]; exact setRow_heap w.drew g _ _ _ _ hg0
  have hF1 : Fr [g] w W1 := by rw [← hW1]; exact (Fr.refl [g] w).drew.trans (fr_setRow _ _ _)
  have hl1 : (splice cur.toList ((k + 1) * 9) (flatO (l.drop k))).length = cap * 9 := by rw [length_splice _ _ _ (by simp only [Array.length_toList, hcsz, h8]; omega)]; simpa using hcsz
  have hv1 : Blk W1 vb o.cs 30 := hv.of_block (hF1.block _ hv.lt (by simpa using hne))
  rw [hW1] at hcp1
  have hcp2 : ∀ ty dc, (Builtin.copy_ #[22, 22] ty #[.slice (some ⟨g, k * 9, none⟩) (l.length + 1 - k) dc, .slice (some ⟨vb, 0, none⟩) 1 1]).run Tryd.prog W1 = .ok (goInt 1) (W1.setRow g (splice (splice cur.toList ((k + 1) * 9) (flatO (l.drop k))) (k * 9) o.cs).toArray) := fun ty dc => by
    have := run_copy_rowK (P := Tryd.prog) W1 22 22 ty 30 9 g (k * 9) (l.length + 1 - k) dc ⟨vb, 0, none⟩ 1 1 (splice cur.toList ((k + 1) * 9) (flatO (l.drop k))).toArray 30 o.cs und_ops hsz hg1 (by rw [hm1]; rfl) (fun j u hu => by rw [Addr.add_lit, Nat.zero_add]; exact hv1.cell j hu) (by simp only [List.size_toArray]; rw [hl1]; simp [Opn.cs]; omega) (flatO_one o)
    rw [hm1] at this
    exact this
  obtain ⟨W2, hW2⟩ : ∃ W2, W1.setRow g (splice (splice cur.toList ((k + 1) * 9) (flatO (l.drop k))) (k * 9) o.cs).toArray = W2 := ⟨_, rfl⟩
  have hg2 : W2.heap[g]? = some (.cells (splice (splice cur.toList ((k + 1) * 9) (flatO (l.drop k))) (k * 9) o.cs).toArray 30 (0, 0)) := by rw [← hW2]; exact setRow_heap W1 g _ _ _ _ hg1
  have hF2 : Fr [g] w W2 := hF1.trans (by rw [← hW2]; exact fr_setRow _ _ _)
  rw [hW2] at hcp2
  have hO : OpsAt W2 (.slice (some ⟨g, 0, none⟩) (l.length + 1) cap) (l.take k ++ o :: l.drop k) := by
    have e1 : (l.take k ++ o :: l.drop k).length = l.length + 1 := by simp; omega
    refine ⟨by rw [flatO_length], Or.inr ⟨g, cap, _, by rw [e1], Nat.zero_le _, hg2, by rw [e1]; exact hcap, hmx, ?_, ?_⟩⟩
    · simp only [List.size_toArray]
      rw [length_splice _ _ _ (by rw [hl1]; simp [Opn.cs]; omega), hl1]
    · rw [e1, flatO_app, flatO_cons]
      have := splice2 cur.toList (flatO (l.take k)) o.cs (flatO (l.drop k)) ((l.length + 1) * 9) htk (by rw [h9, h8]; simp [Opn.cs]; omega) (by simp [hcsz]; omega)
      rw [h9] at this
      rw [show k * 9 + o.cs.length = (k + 1) * 9 by simp [Opn.cs]; omega] at this
      exact this
  have HO := Lib.hid hO
  have HF2 := Lib.hid hF2
  have hcm : (cap : Int) ≤ 9223372036854775807 := by simp only [maxLen] at hmx; omega
  have hk1 : (k : Int) < l.length := by omega
  have hk2 : ¬ ((k : Int) = l.length) := by omega
  have hk3 : ¬ ((cap : Int) < (l.length : Int) + 1) := by omega
  have hk4 : ¬ (cap = k) := by omega
  have hk5 : ¬ (cap = k + 1) := by omega
  have hk6 : (0 : Int) ≤ (l.length : Int) + 1 := by omega
  have hk7 : (k : Int) + 1 ≤ (l.length : Int) + 1 := by omega
  have hk8 : ((k : Int) + 1).toNat = k + 1 := by omega
  have hk9 : (0 : Int) ≤ (k : Int) + 1 := by omega
  have hk10 : (0 : Int) ≤ (k : Int) := by omega
  have hk11 : (k : Int) ≤ (l.length : Int) + 1 := by omega
  have hk12 : (k : Int).toNat = k := by omega
  have hk13 : (l.length : Int) + 1 ≤ cap := by omega
  have mixed : Tryd.prog.follows Departure.mixedOrders = true := by kernel_rfl
  have hw1 : IntKind.i64.wrap ((l.length : Int) + 1) = (l.length : Int) + 1 := by rw [IntKind.wrap_i64]; omega
  have hw2 : IntKind.i64.wrap ((k : Int) + 1) = (k : Int) + 1 := by rw [IntKind.wrap_i64]; omega
  clear hO hF2 hg0 hg1 hg2 hF1 hv1 hW1 hW2 hm1 hm2 htk hcsz hl1 h8 h9 htl hmx
  go_enter Tryd.func42, Tryd.ntmps42
  go_wp2_with (simp only [hov])
  go_region
  go_wp2
  go_ret
  exact ⟨_, rfl, HO.out, HF2.out, Or.inl rfl⟩

theorem insert_any (w : World) (sv : Value) (l : List Opn) (o : Opn) (vb k : Nat) (h : OpsAt w sv l) (hv : Blk w vb o.cs 30) (hne : sv.ownBlock ≠ some vb) (hs : l.length ≤ 100000) (hk : k ≤ l.length) :
    Calls Tryd.prog 42 #[sv, .int .i64 k, .slice (some ⟨vb, 0, none⟩) 1 1] w (Inserted sv l k o w) := by
  rcases Nat.lt_or_eq_of_le hk with h1 | rfl
  · rcases h.cases with ⟨rfl, rfl⟩ | ⟨g, cap, rfl⟩
    · cases h1
    · rcases Nat.lt_or_ge cap (l.length + 1) with h2 | h2
      · exact insert_grow w l o g cap vb k h hv hs h1 h2
      · exact insert_shift w l o g cap vb k h hv (fun e => hne (by simp [Value.ownBlock, e])) hs h1 h2
  · exact insert_end w sv l o vb h hv hs
end Go.Proofs.YteghkajegdcbjaaDoor
