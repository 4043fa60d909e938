/-
  slices.BinarySearchFunc over operations in order.
-/
import Derived.Test.YteghkajegdcbjaaDoorT15
import Derived.Deep.LoopGhost
import Derived.Deep.RegionHeld3
import Derived.BigRegion
namespace Go.Proofs.YteghkajegdcbjaaDoor
open Go.RowKit
set_option maxRecDepth 100000
set_option maxHeartbeats 1000000

/-- Operations in order. -/
def RisingO (l : List Opn) : Prop := l.Pairwise fun a b => a.at_.lt b.at_ = true
def thereO (l : List Opn) (s : St) : Bool := decide (s ∈ l.map Opn.at_)
/-- Place k parts what stands ahead of a stamp from what does not. -/
def Parts (l : List Opn) (s : St) (k : Nat) : Prop := k ≤ l.length ∧ (∀ j (hj : j < l.length), j < k → l[j].at_.lt s = true) ∧ ∀ j (hj : j < l.length), k ≤ j → l[j].at_.lt s = false
def Found (l : List Opn) (s : St) (w : World) (e : Ending) (w' : World) : Prop :=
  ∃ k, Parts l s k ∧ e = .returned (.tuple #[.int .i64 k, .bool (thereO l s)]) ∧ Below w.heap.size w w'

theorem thereO_at {l : List Opn} {s : St} {k : Nat} (h : RisingO l) (hp : Parts l s k) : thereO l s = if hk : k < l.length then decide (l[k].at_ = s) else false := by
  have hne : ∀ j (hj : j < l.length), j ≠ k → l[j].at_ ≠ s := fun j hj hjk e => by
    rcases Nat.lt_or_gt_of_ne hjk with h1 | h1
    · have := hp.2.1 j hj h1
      rw [e, lt_irrefl] at this; cases this
    · have hk : k < l.length := by omega
      have h2 := hp.2.2 k hk (Nat.le_refl _)
      have h3 := List.pairwise_iff_getElem.1 h k j hk hj h1
      rw [e, h2] at h3; cases h3
  unfold thereO
  by_cases hk : k < l.length
  · rw [dif_pos hk]
    refine decide_eq_decide.2 ⟨fun hm => ?_, fun e => List.mem_map.2 ⟨_, List.getElem_mem hk, e⟩⟩
    obtain ⟨x, hx, e⟩ := List.mem_map.1 hm
    obtain ⟨j, hj, rfl⟩ := List.getElem_of_mem hx
    by_cases hjk : j = k
    · subst hjk; exact e
    · exact absurd e (hne j hj hjk)
  · rw [dif_neg hk]
    refine decide_eq_false fun hm => ?_
    obtain ⟨x, hx, e⟩ := List.mem_map.1 hm
    obtain ⟨j, hj, rfl⟩ := List.getElem_of_mem hx
    exact hne j hj (by omega) e
theorem orderP_neg {a b c d : Int} : orderP a b c d < 0 ↔ lessP a b c d = true := by
  unfold orderP
  cases lessP a b c d <;> simp <;> split <;> omega
theorem orderP_zero {a b c d : Int} : orderP a b c d = 0 ↔ (⟨a, b⟩ : St) = ⟨c, d⟩ := by
  unfold orderP
  cases hl : lessP a b c d
  · simp
  · simp
    intro h1 h2
    subst h1; subst h2
    simp [lessP] at hl

theorem search_any (w : World) (sv : Value) (l : List Opn) (t u : Int) (h : OpsAt w sv l) (hR : RisingO l) (hl : l.length ≤ 512) :
    Calls Tryd.prog 38 #[sv, .agg #[.int .i64 t, .int .i64 u], .func (.func 39) #[] #[]] w (Found l ⟨t, u⟩ w) := by
  have eg : ∀ args w, (callFunc 39 args).run Tryd.prog w = .ok (.enter 39 args) w := enters_of Tryd.func39 (by kernel_rfl) rfl
  have HH := Lib.hid h
  have HR := Lib.hid hR
  have hcs := h.cases
  have hlg : ∀ g, sv.ownBlock = some g → g < w.heap.size := fun g hg => h.lt hg
  have HO := Lib.hid ordOp_grow
  have hB0 : Below w.heap.size w (w.alloc (.cells #[.int .i64 t, .int .i64 u] 28)) := (Below.refl _ _).alloc (Nat.le_refl _) _
  have hN0 : Blk (w.alloc (.cells #[.int .i64 t, .int .i64 u] 28)) w.heap.size [.int .i64 t, .int .i64 u] 28 := Blk.at_ _ [.int .i64 t, .int .i64 u] _ rfl
  clear h hR
  rcases hcs with ⟨rfl, hn⟩ | ⟨g, cap, rfl⟩
  · subst hn
    go_enter Tryd.func38, Tryd.ntmps38
    go_wp2
    refine wp_loop_rounds 1 ?_
    rw [rounds_succ]
    go_wp2
    go_region
    go_wp2
    go_ret2
    exact ⟨0, ⟨Nat.le_refl _, fun j hj => absurd hj (by simp), fun j hj => absurd hj (by simp)⟩, rfl, hB0.drew⟩
  · go_enter Tryd.func38, Tryd.ntmps38
    go_wp2
    go_loopg [9, 10] (l.length + 1) (fun gk vi vj wr => ∃ i j : Nat, vi = .int .i64 i ∧ vj = .int .i64 j ∧ i ≤ j ∧ j ≤ l.length ∧ j < i + gk ∧ Aside ((∀ x (hx : x < l.length), x < i → l[x].at_.lt ⟨t, u⟩ = true) ∧ ∀ x (hx : x < l.length), j ≤ x → l[x].at_.lt ⟨t, u⟩ = false) ∧ Blk wr w.heap.size [.int .i64 t, .int .i64 u] 28 ∧ Below w.heap.size w wr)
    case atStart => exact ⟨0, l.length, rfl, rfl, Nat.zero_le _, Nat.le_refl _, by omega, ⟨fun x _ hx => absurd hx (by omega), fun x h1 h2 => absurd h1 (by omega)⟩, hN0, hB0⟩
    case round =>
      clear hB0 hN0
      obtain ⟨i, j, rfl, rfl, hij, hjl, hm, HA, B1, HB⟩ := hrel
      by_cases hlt : i < j
      · have hlt2 : (i : Int) < j := by omega
        have h4' := HH.out.of_block (w' := wr) (fun g' hg' => HB.block _ (hlg g' hg'))
        have hy : (i + j) / 2 < l.length := by omega
        have hy1 : (0 : Int) ≤ ((i : Int) + j) / 2 := by omega
        have hy2 : ((i : Int) + j) / 2 < l.length := by omega
        have hy3 : (((i : Int) + j) / 2).toNat = (i + j) / 2 := by omega
        have e0 := h4'.cell ((i + j) / 2) 0 hy (by omega)
        have e1 := h4'.cell ((i + j) / 2) 1 hy (by omega)
        have e2 := h4'.cell ((i + j) / 2) 2 hy (by omega)
        have e3 := h4'.cell ((i + j) / 2) 3 hy (by omega)
        have e4 := h4'.cell ((i + j) / 2) 4 hy (by omega)
        have e5 := h4'.cell ((i + j) / 2) 5 hy (by omega)
        have e6 := h4'.cell ((i + j) / 2) 6 hy (by omega)
        have e7 := h4'.cell ((i + j) / 2) 7 hy (by omega)
        have e8 := h4'.cell ((i + j) / 2) 8 hy (by omega)
        obtain ⟨x, hx⟩ : ∃ x, x = l[(i + j) / 2] := ⟨_, rfl⟩
        rw [← hx] at e0 e1 e2 e3 e4 e5 e6 e7 e8
        simp only [Opn.cs, Nat.add_zero, List.getElem?_cons_zero, List.getElem?_cons_succ] at e0 e1 e2 e3 e4 e5 e6 e7 e8
        have d0 := B1.cell 0 rfl
        have d1 := B1.cell 1 rfl
        obtain ⟨xk, ⟨xa, xb⟩, ⟨xc, xd⟩, ⟨xe, xf⟩, xn, xv⟩ := x
        have HX := Lib.hid hx
        clear hx h4'
        have hord := fun W => ordOp_grow xk xa xb xc xd xe xf xn xv t u W
        generalize horp : orderP xa xb t u = r at hord
        have HRP := Lib.hid horp
        have HOR := Lib.hid hord
        clear horp hord
        by_cases hr : r < 0
        · have hr2 : lessP xa xb t u = true := orderP_neg.1 (by rw [HRP.out]; exact hr)
          have HLT := Lib.hid hr2
          clear hr2
          have hgw : g < wr.heap.size := Nat.lt_of_lt_of_le (hlg g rfl) HB.size
          have hb1 := B1.lt
          have hc6 := Lib.hid HB
          have K : ∀ w' : World, Below wr.heap.size wr w' → (w'.cell? ⟨g, ((i + j) / 2) * 9, none⟩ = some (.int .i64 xk) ∧ w'.cell? ⟨g, ((i + j) / 2) * 9 + 1, none⟩ = some (.int .i64 xa) ∧ w'.cell? ⟨g, ((i + j) / 2) * 9 + 2, none⟩ = some (.int .i64 xb) ∧ w'.cell? ⟨g, ((i + j) / 2) * 9 + 3, none⟩ = some (.int .i64 xc) ∧ w'.cell? ⟨g, ((i + j) / 2) * 9 + 4, none⟩ = some (.int .i64 xd) ∧ w'.cell? ⟨g, ((i + j) / 2) * 9 + 5, none⟩ = some (.int .i64 xe) ∧ w'.cell? ⟨g, ((i + j) / 2) * 9 + 6, none⟩ = some (.int .i64 xf) ∧ w'.cell? ⟨g, ((i + j) / 2) * 9 + 7, none⟩ = some (.string xn) ∧ w'.cell? ⟨g, ((i + j) / 2) * 9 + 8, none⟩ = some (.string xv) ∧ w'.cell? ⟨w.heap.size, 0, none⟩ = some (.int .i64 t) ∧ w'.cell? ⟨w.heap.size, 1, none⟩ = some (.int .i64 u) ∧ Below w.heap.size w w') := fun w' hw => by
            obtain ⟨hc, hf⟩ := bcell hw
            exact ⟨(hc _ _ hgw).trans e0, (hc _ _ hgw).trans e1, (hc _ _ hgw).trans e2, (hc _ _ hgw).trans e3, (hc _ _ hgw).trans e4, (hc _ _ hgw).trans e5, (hc _ _ hgw).trans e6, (hc _ _ hgw).trans e7, (hc _ _ hgw).trans e8, (hc _ _ hb1).trans d0, (hc _ _ hb1).trans d1, below_up hc6.out hw hc6.out.size⟩
          have hk0 : Below wr.heap.size wr wr.drew := (Below.refl _ _).drew
          go_wp2
          go_region_held3 (fun w' => w'.cell? ⟨g, ((i + j) / 2) * 9, none⟩ = some (.int .i64 xk) ∧ w'.cell? ⟨g, ((i + j) / 2) * 9 + 1, none⟩ = some (.int .i64 xa) ∧ w'.cell? ⟨g, ((i + j) / 2) * 9 + 2, none⟩ = some (.int .i64 xb) ∧ w'.cell? ⟨g, ((i + j) / 2) * 9 + 3, none⟩ = some (.int .i64 xc) ∧ w'.cell? ⟨g, ((i + j) / 2) * 9 + 4, none⟩ = some (.int .i64 xd) ∧ w'.cell? ⟨g, ((i + j) / 2) * 9 + 5, none⟩ = some (.int .i64 xe) ∧ w'.cell? ⟨g, ((i + j) / 2) * 9 + 6, none⟩ = some (.int .i64 xf) ∧ w'.cell? ⟨g, ((i + j) / 2) * 9 + 7, none⟩ = some (.string xn) ∧ w'.cell? ⟨g, ((i + j) / 2) * 9 + 8, none⟩ = some (.string xv) ∧ w'.cell? ⟨w.heap.size, 0, none⟩ = some (.int .i64 t) ∧ w'.cell? ⟨w.heap.size, 1, none⟩ = some (.int .i64 u) ∧ Below w.heap.size w w') (first | exact K _ hk0 | exact K _ hk1) ((go_at_fn 39; refine (HOR.out _).mono ?_; rintro e w' ⟨rfl, hg⟩; have hk1 := below_up hk0 (grow_below hg.choose_spec) (Nat.le_refl _)))
          rename_i hgS
          have HB' := hgS.2.2.2.2.2.2.2.2.2.2.2
          have B1' : Blk w' w.heap.size [.int .i64 t, .int .i64 u] 28 := B1.below hk1 hb1
          clear hgS hg K
          go_wp2
          go_roundg (j - ((i + j) / 2 + 1) + 1)
          case measure => omega
          case rel =>
            have hA := HA.out
            have hX := HX.out
            exact ⟨(i + j) / 2 + 1, j, by rw [show ((i : Int) + (j : Int)) / 2 + 1 = (((i + j) / 2 + 1 : Nat) : Int) by omega], rfl, by omega, hjl, by omega, ⟨fun y hy hyi => by
              rcases Nat.lt_or_ge y ((i + j) / 2) with h1 | h1
              · have h2 := List.pairwise_iff_getElem.1 HR.out y ((i + j) / 2) hy (by omega) h1
                rw [← hX] at h2
                exact lt_trans h2 HLT.out
              · obtain rfl : y = (i + j) / 2 := by omega
                rw [← hX]; exact HLT.out, hA.2⟩, B1', HB'⟩
        · have hr2 : lessP xa xb t u = false := by
            cases h1 : lessP xa xb t u
            · rfl
            · exact absurd (orderP_neg.2 h1) (by rw [HRP.out]; exact hr)
          have HLT := Lib.hid hr2
          clear hr2
          have hgw : g < wr.heap.size := Nat.lt_of_lt_of_le (hlg g rfl) HB.size
          have hb1 := B1.lt
          have hc6 := Lib.hid HB
          have K : ∀ w' : World, Below wr.heap.size wr w' → (w'.cell? ⟨g, ((i + j) / 2) * 9, none⟩ = some (.int .i64 xk) ∧ w'.cell? ⟨g, ((i + j) / 2) * 9 + 1, none⟩ = some (.int .i64 xa) ∧ w'.cell? ⟨g, ((i + j) / 2) * 9 + 2, none⟩ = some (.int .i64 xb) ∧ w'.cell? ⟨g, ((i + j) / 2) * 9 + 3, none⟩ = some (.int .i64 xc) ∧ w'.cell? ⟨g, ((i + j) / 2) * 9 + 4, none⟩ = some (.int .i64 xd) ∧ w'.cell? ⟨g, ((i + j) / 2) * 9 + 5, none⟩ = some (.int .i64 xe) ∧ w'.cell? ⟨g, ((i + j) / 2) * 9 + 6, none⟩ = some (.int .i64 xf) ∧ w'.cell? ⟨g, ((i + j) / 2) * 9 + 7, none⟩ = some (.string xn) ∧ w'.cell? ⟨g, ((i + j) / 2) * 9 + 8, none⟩ = some (.string xv) ∧ w'.cell? ⟨w.heap.size, 0, none⟩ = some (.int .i64 t) ∧ w'.cell? ⟨w.heap.size, 1, none⟩ = some (.int .i64 u) ∧ Below w.heap.size w w') := fun w' hw => by
            obtain ⟨hc, hf⟩ := bcell hw
            exact ⟨(hc _ _ hgw).trans e0, (hc _ _ hgw).trans e1, (hc _ _ hgw).trans e2, (hc _ _ hgw).trans e3, (hc _ _ hgw).trans e4, (hc _ _ hgw).trans e5, (hc _ _ hgw).trans e6, (hc _ _ hgw).trans e7, (hc _ _ hgw).trans e8, (hc _ _ hb1).trans d0, (hc _ _ hb1).trans d1, below_up hc6.out hw hc6.out.size⟩
          have hk0 : Below wr.heap.size wr wr.drew := (Below.refl _ _).drew
          go_wp2
          go_region_held3 (fun w' => w'.cell? ⟨g, ((i + j) / 2) * 9, none⟩ = some (.int .i64 xk) ∧ w'.cell? ⟨g, ((i + j) / 2) * 9 + 1, none⟩ = some (.int .i64 xa) ∧ w'.cell? ⟨g, ((i + j) / 2) * 9 + 2, none⟩ = some (.int .i64 xb) ∧ w'.cell? ⟨g, ((i + j) / 2) * 9 + 3, none⟩ = some (.int .i64 xc) ∧ w'.cell? ⟨g, ((i + j) / 2) * 9 + 4, none⟩ = some (.int .i64 xd) ∧ w'.cell? ⟨g, ((i + j) / 2) * 9 + 5, none⟩ = some (.int .i64 xe) ∧ w'.cell? ⟨g, ((i + j) / 2) * 9 + 6, none⟩ = some (.int .i64 xf) ∧ w'.cell? ⟨g, ((i + j) / 2) * 9 + 7, none⟩ = some (.string xn) ∧ w'.cell? ⟨g, ((i + j) / 2) * 9 + 8, none⟩ = some (.string xv) ∧ w'.cell? ⟨w.heap.size, 0, none⟩ = some (.int .i64 t) ∧ w'.cell? ⟨w.heap.size, 1, none⟩ = some (.int .i64 u) ∧ Below w.heap.size w w') (first | exact K _ hk0 | exact K _ hk1) ((go_at_fn 39; refine (HOR.out _).mono ?_; rintro e w' ⟨rfl, hg⟩; have hk1 := below_up hk0 (grow_below hg.choose_spec) (Nat.le_refl _)))
          rename_i hgS
          have HB' := hgS.2.2.2.2.2.2.2.2.2.2.2
          have B1' : Blk w' w.heap.size [.int .i64 t, .int .i64 u] 28 := B1.below hk1 hb1
          clear hgS hg K
          go_wp2
          go_roundg ((i + j) / 2 - i + 1)
          case measure => omega
          case rel =>
            have hA := HA.out
            have hX := HX.out
            exact ⟨i, (i + j) / 2, rfl, by rw [show ((i : Int) + (j : Int)) / 2 = (((i + j) / 2 : Nat) : Int) by omega], by omega, by omega, by omega, ⟨hA.1, fun y hy hyi => by
              rcases Nat.lt_or_ge ((i + j) / 2) y with h1 | h1
              · have h2 := List.pairwise_iff_getElem.1 HR.out ((i + j) / 2) y (by omega) hy h1
                rw [← hX] at h2
                cases h3 : l[y].at_.lt ⟨t, u⟩
                · rfl
                · have h4 := lt_trans h2 h3
                  have h5 := HLT.out
                  simp only [St.lt] at h4
                  rw [h4] at h5
                  cases h5
              · obtain rfl : y = (i + j) / 2 := by omega
                rw [← hX]; exact HLT.out⟩, B1', HB'⟩
      · obtain rfl : i = j := by omega
        have hp : Parts l ⟨t, u⟩ i := ⟨hjl, HA.out.1, HA.out.2⟩
        have hth := thereO_at HR.out hp
        have HP := Lib.hid hp
        by_cases hin : i < l.length
        · have hin2 : (i : Int) < l.length := by omega
          rw [dif_pos hin] at hth
          have h4' := HH.out.of_block (w' := wr) (fun g' hg' => HB.block _ (hlg g' hg'))
          have e0 := h4'.cell i 0 hin (by omega)
          have e1 := h4'.cell i 1 hin (by omega)
          have e2 := h4'.cell i 2 hin (by omega)
          have e3 := h4'.cell i 3 hin (by omega)
          have e4 := h4'.cell i 4 hin (by omega)
          have e5 := h4'.cell i 5 hin (by omega)
          have e6 := h4'.cell i 6 hin (by omega)
          have e7 := h4'.cell i 7 hin (by omega)
          have e8 := h4'.cell i 8 hin (by omega)
          obtain ⟨x, hx⟩ : ∃ x, x = l[i] := ⟨_, rfl⟩
          rw [← hx] at e0 e1 e2 e3 e4 e5 e6 e7 e8 hth
          simp only [Opn.cs, Nat.add_zero, List.getElem?_cons_zero, List.getElem?_cons_succ] at e0 e1 e2 e3 e4 e5 e6 e7 e8
          have d0 := B1.cell 0 rfl
          have d1 := B1.cell 1 rfl
          obtain ⟨xk, ⟨xa, xb⟩, ⟨xc, xd⟩, ⟨xe, xf⟩, xn, xv⟩ := x
          have hord := fun W => ordOp_grow xk xa xb xc xd xe xf xn xv t u W
          have hz : thereO l ⟨t, u⟩ = decide (orderP xa xb t u = 0) := by rw [hth]; exact decide_eq_decide.2 orderP_zero.symm
          clear hx h4' hth HA hp
          generalize orderP xa xb t u = r at hord hz
          have HOR := Lib.hid hord
          have HZ := Lib.hid hz
          clear hord hz
          have hd : decide ((i : Int) < (l.length : Int)) = true := by simpa using hin
          have hgw : g < wr.heap.size := Nat.lt_of_lt_of_le (hlg g rfl) HB.size
          have hb1 := B1.lt
          have hc6 := Lib.hid HB
          have K : ∀ w' : World, Below wr.heap.size wr w' → (w'.cell? ⟨g, i * 9, none⟩ = some (.int .i64 xk) ∧ w'.cell? ⟨g, i * 9 + 1, none⟩ = some (.int .i64 xa) ∧ w'.cell? ⟨g, i * 9 + 2, none⟩ = some (.int .i64 xb) ∧ w'.cell? ⟨g, i * 9 + 3, none⟩ = some (.int .i64 xc) ∧ w'.cell? ⟨g, i * 9 + 4, none⟩ = some (.int .i64 xd) ∧ w'.cell? ⟨g, i * 9 + 5, none⟩ = some (.int .i64 xe) ∧ w'.cell? ⟨g, i * 9 + 6, none⟩ = some (.int .i64 xf) ∧ w'.cell? ⟨g, i * 9 + 7, none⟩ = some (.string xn) ∧ w'.cell? ⟨g, i * 9 + 8, none⟩ = some (.string xv) ∧ w'.cell? ⟨w.heap.size, 0, none⟩ = some (.int .i64 t) ∧ w'.cell? ⟨w.heap.size, 1, none⟩ = some (.int .i64 u) ∧ Below w.heap.size w w') := fun w' hw => by
            obtain ⟨hc, hf⟩ := bcell hw
            exact ⟨(hc _ _ hgw).trans e0, (hc _ _ hgw).trans e1, (hc _ _ hgw).trans e2, (hc _ _ hgw).trans e3, (hc _ _ hgw).trans e4, (hc _ _ hgw).trans e5, (hc _ _ hgw).trans e6, (hc _ _ hgw).trans e7, (hc _ _ hgw).trans e8, (hc _ _ hb1).trans d0, (hc _ _ hb1).trans d1, below_up hc6.out hw hc6.out.size⟩
          have hk0 : Below wr.heap.size wr wr.drew := (Below.refl _ _).drew
          go_wp2
          go_region_held3 (fun w' => w'.cell? ⟨g, i * 9, none⟩ = some (.int .i64 xk) ∧ w'.cell? ⟨g, i * 9 + 1, none⟩ = some (.int .i64 xa) ∧ w'.cell? ⟨g, i * 9 + 2, none⟩ = some (.int .i64 xb) ∧ w'.cell? ⟨g, i * 9 + 3, none⟩ = some (.int .i64 xc) ∧ w'.cell? ⟨g, i * 9 + 4, none⟩ = some (.int .i64 xd) ∧ w'.cell? ⟨g, i * 9 + 5, none⟩ = some (.int .i64 xe) ∧ w'.cell? ⟨g, i * 9 + 6, none⟩ = some (.int .i64 xf) ∧ w'.cell? ⟨g, i * 9 + 7, none⟩ = some (.string xn) ∧ w'.cell? ⟨g, i * 9 + 8, none⟩ = some (.string xv) ∧ w'.cell? ⟨w.heap.size, 0, none⟩ = some (.int .i64 t) ∧ w'.cell? ⟨w.heap.size, 1, none⟩ = some (.int .i64 u) ∧ Below w.heap.size w w') (first | exact K _ hk0 | exact K _ hk1) ((go_at_fn 39; refine (HOR.out _).mono ?_; rintro e w' ⟨rfl, hg⟩; have hk1 := below_up hk0 (grow_below hg.choose_spec) (Nat.le_refl _)))
          rename_i hgS
          have HB' := hgS.2.2.2.2.2.2.2.2.2.2.2
          have B1' : Blk w' w.heap.size [.int .i64 t, .int .i64 u] 28 := B1.below hk1 hb1
          clear hgS hg K
          go_wp2
          go_ret2
          exact ⟨i, HP.out, by rw [HZ.out]; simp [← Bool.beq_eq_decide_eq], HB'⟩
        · rw [dif_neg hin] at hth
          have HZ := Lib.hid hth
          clear hth
          have hin2 : ¬ (i : Int) < l.length := by omega
          have hd : decide ((i : Int) < (l.length : Int)) = false := by simpa using hin
          clear HA hp
          go_wp2
          go_region
          go_wp2
          go_ret2
          exact ⟨i, HP.out, by rw [HZ.out]; rfl, HB.drew⟩
end Go.Proofs.YteghkajegdcbjaaDoor
