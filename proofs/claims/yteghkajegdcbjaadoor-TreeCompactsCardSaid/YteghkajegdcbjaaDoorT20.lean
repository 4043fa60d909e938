/-
  slices.Delete of the first operations.
-/
import Derived.Test.YteghkajegdcbjaaDoorT19
import Derived.BigRegion
namespace Go.Proofs.YteghkajegdcbjaaDoor
open Go.RowKit
set_option maxRecDepth 100000
set_option maxHeartbeats 1000000

/-- What comes back of a row. -/
def Deleted (g cap : Nat) (l : List Opn) (n : Nat) (w : World) (e : Ending) (w' : World) : Prop :=
  e = .returned (.slice (some ⟨g, 0, none⟩) (l.length - n) cap) ∧ OpsAt w' (.slice (some ⟨g, 0, none⟩) (l.length - n) cap) (l.drop n) ∧ Fr [g] w w'

theorem delete_nil (w : World) : Calls Tryd.prog 46 #[.slice none 0 0, .int .i64 0, .int .i64 0] w fun e w' => e = .returned (.slice none 0 0) ∧ w' = w := by
  go_enter Tryd.func46, Tryd.ntmps46
  go_wp2
  go_ret
  exact ⟨rfl, rfl⟩
theorem delete_zero (w : World) (l : List Opn) (g cap : Nat) (h : OpsAt w (.slice (some ⟨g, 0, none⟩) l.length cap) l) (hs : l.length ≤ 100000) :
    Calls Tryd.prog 46 #[.slice (some ⟨g, 0, none⟩) l.length cap, .int .i64 0, .int .i64 0] w (Deleted g cap l 0 w) := by
  have HH := Lib.hid h
  have hc : l.length ≤ cap := by
    rcases h.2 with ⟨h1, _⟩ | ⟨g', c', cur', h1, _, h3, h2, h4, h5, h6⟩
    · cases h1
    · cases h1; exact h2
  clear h
  go_enter Tryd.func46, Tryd.ntmps46
  go_wp2
  all_goals
    go_ret
    exact ⟨rfl, HH.out, Fr.refl _ _⟩

theorem delete_some (w : World) (l : List Opn) (g cap n : Nat) (h : OpsAt w (.slice (some ⟨g, 0, none⟩) l.length cap) l) (hs : l.length ≤ 100000) (hn : 0 < n) (hnl : n ≤ l.length) :
    Calls Tryd.prog 46 #[.slice (some ⟨g, 0, none⟩) l.length cap, .int .i64 0, .int .i64 n] w (Deleted g cap l n w) := by
  obtain ⟨i0, hi, hz0, hz1, hz2⟩ := info_parts info_op
  have h8 : (flatO (l.drop n)).length = (l.length - n) * 9 := by rw [flatO_length, List.length_drop]
  obtain ⟨cur, hg0, hlc, hmx, hcsz, htl⟩ : ∃ cur : Array Value, w.heap[g]? = some (.cells cur 30 (0, 0)) ∧ l.length ≤ cap ∧ cap ≤ maxLen ∧ cur.size = cap * 9 ∧ cur.toList.take (l.length * 9) = flatO l := by
    rcases h.2 with ⟨h1, _⟩ | ⟨g', c', cur', h1, _, h3, h2, h4, h5, h6⟩
    · cases h1
    · cases h1; exact ⟨cur', h3, h2, h4, h5, h6⟩
  obtain ⟨A, hA, hsrc⟩ : ∃ A : Addr, (if cap = n then some (⟨g, 0, none⟩ : Addr) else some ⟨g, n * 9, none⟩) = some A ∧ ∀ t u, (flatO (l.drop n))[t]? = some u → w.drew.cell? (A.add t) = some u := by
    by_cases hc : cap = n
    · refine ⟨⟨g, 0, none⟩, by simp [hc], fun t u hu => ?_⟩
      rw [List.eq_nil_of_length_eq_zero (by rw [h8]; omega : (flatO (l.drop n)).length = 0)] at hu
      simp at hu
    · refine ⟨⟨g, n * 9, none⟩, by simp [hc], fun t u hu => ?_⟩
      rw [Addr.add_lit]
      rw [flatO_drop l n hnl, List.getElem?_drop] at hu
      have h5 := h.cells (g := g) rfl (n * 9 + t) u hu
      rw [Addr.add_lit, Nat.zero_add] at h5
      exact h5
  have hap : ∀ ty c, (Builtin.append_ #[22, 22] ty #[.slice (some ⟨g, 0, none⟩) 0 cap, .slice (some A) (l.length - n) c]).run Tryd.prog w.drew = .ok (.slice (some ⟨g, 0, none⟩) (l.length - n) cap) (w.drew.setRow g (splice cur.toList 0 (flatO (l.drop n))).toArray) := fun ty c => by
    have := run_append_room (P := Tryd.prog) w.drew 22 ty 30 i0 und_ops hi g 0 cap cur hg0 A (l.length - n) c (flatO (l.drop n)) (by rw [h8, hz1]) hsrc (flatO_ones _) (by omega) (by rw [h8, hcsz]; omega)
    simpa [splice] using this
  obtain ⟨W1, hW1⟩ : ∃ W1, w.drew.setRow g (splice cur.toList 0 (flatO (l.drop n))).toArray = W1 := ⟨_, rfl⟩
  have hg1 : W1.heap[g]? = some (.cells (splice cur.toList 0 (flatO (l.drop n))).toArray 30 (0, 0)) := by rw [← hW1]; exact setRow_heap w.drew g _ _ _ _ hg0
  have hF1 : Fr [g] w W1 := by rw [← hW1]; exact (Fr.refl [g] w).drew.trans (fr_setRow _ _ _)
  have hl1 : (splice cur.toList 0 (flatO (l.drop n))).length = cap * 9 := by rw [length_splice _ _ _ (by simp only [Array.length_toList, hcsz, h8]; omega)]; simpa using hcsz
  rw [hW1] at hap
  obtain ⟨z, hz, hzs, hzo⟩ : ∃ z, (∀ w, (zeroValue 30).run Tryd.prog w = .ok z w) ∧ z.cells.size = 9 ∧ ∀ v ∈ z.cells, v.oneCell' = true := by
    refine ⟨_, Tryd.zeroValue30, rfl, ?_⟩
    intro v hv
    simp [Value.cells] at hv
    rcases hv with rfl | rfl | rfl | rfl | rfl | rfl | rfl | rfl | rfl <;> rfl
  have hcl : ∀ ty c, (Builtin.clear_ #[22] ty #[.slice (some ⟨g, (l.length - n) * 9, none⟩) (l.length - (l.length - n)) c]).run Tryd.prog W1 = .ok (.tuple #[]) (W1.setRow g (splice (splice cur.toList 0 (flatO (l.drop n))) ((l.length - n) * 9) (Builtin.zeroCells z.cells n).toList).toArray) := fun ty c => by
    have := run_clear_rowK (P := Tryd.prog) W1 22 30 ty z 9 g ((l.length - n) * 9) n c _ 30 und_ops hz hzs hzo hg1 hn (by simp only [List.size_toArray]; rw [hl1]; omega)
    rw [show l.length - (l.length - n) = n by omega]
    exact this
  obtain ⟨W2, hW2⟩ : ∃ W2, W1.setRow g (splice (splice cur.toList 0 (flatO (l.drop n))) ((l.length - n) * 9) (Builtin.zeroCells z.cells n).toList).toArray = W2 := ⟨_, rfl⟩
  have hg2 : W2.heap[g]? = some (.cells (splice (splice cur.toList 0 (flatO (l.drop n))) ((l.length - n) * 9) (Builtin.zeroCells z.cells n).toList).toArray 30 (0, 0)) := by rw [← hW2]; exact setRow_heap W1 g _ _ _ _ hg1
  have hF2 : Fr [g] w W2 := hF1.trans (by rw [← hW2]; exact fr_setRow _ _ _)
  rw [hW2] at hcl
  have hzl : (Builtin.zeroCells z.cells n).toList.length = n * 9 := by simp [size_zeroCells, hzs]
  have hO : OpsAt W2 (.slice (some ⟨g, 0, none⟩) (l.length - n) cap) (l.drop n) := by
    have e1 : (l.drop n).length = l.length - n := by simp
    refine ⟨by rw [flatO_length], Or.inr ⟨g, cap, _, by rw [e1], Nat.zero_le _, hg2, by rw [e1]; omega, hmx, ?_, ?_⟩⟩
    · simp only [List.size_toArray]
      rw [length_splice _ _ _ (by rw [hl1, hzl]; omega), hl1]
    · rw [e1]
      have := splice_take_head cur.toList (flatO (l.drop n)) (Builtin.zeroCells z.cells n).toList (by rw [h8, hzl]; simp [hcsz]; omega)
      rw [h8] at this
      exact this
  have HO := Lib.hid hO
  have HF2 := Lib.hid hF2
  have HAP := Lib.hid hap
  have hcm : (cap : Int) ≤ 9223372036854775807 := by simp only [maxLen] at hmx; omega
  have hk1 : ¬ ((n : Int) = 0) := by omega
  have hk2 : (n : Int) ≤ l.length := by omega
  have hk3 : (0 : Int) ≤ n := by omega
  have hk4 : (l.length : Int) ≤ cap := by omega
  have hk5 : (n : Int) ≤ cap := by omega
  have hk6 : ¬ (cap = l.length - n) := by omega
  have hk7 : ¬ (n = 0) := by omega
  have hk8 : ¬ ((0 : Int) = n) := by omega
  have mixed : Tryd.prog.follows Departure.mixedOrders = true := by kernel_rfl
  clear hO hF2 hap hg0 hg1 hg2 hF1 hW1 hW2 hcsz hl1 h8 htl hmx hsrc hzl hz hzs hzo
  go_enter Tryd.func46, Tryd.ntmps46
  go_wp2
  go_region_law (refine step_append_run rfl (.tmp 22) (.tmp 25) 22 22 rfl (.slice (some ⟨g, 0, none⟩) 0 cap) (.slice (some A) (l.length - n) (cap - n)) (by simp [Act.eval, Act.put]) (by simp [Act.eval, Act.put]) (HAP.out _ _) ?_)
  go_wp2
  go_ret
  exact ⟨rfl, HO.out, HF2.out⟩
theorem delete_row (w : World) (l : List Opn) (g cap n : Nat) (h : OpsAt w (.slice (some ⟨g, 0, none⟩) l.length cap) l) (hs : l.length ≤ 100000) (hnl : n ≤ l.length) :
    Calls Tryd.prog 46 #[.slice (some ⟨g, 0, none⟩) l.length cap, .int .i64 0, .int .i64 n] w (Deleted g cap l n w) := by
  rcases Nat.eq_zero_or_pos n with rfl | hn
  · exact delete_zero w l g cap h hs
  · exact delete_some w l g cap n h hs hn hnl
end Go.Proofs.YteghkajegdcbjaaDoor
