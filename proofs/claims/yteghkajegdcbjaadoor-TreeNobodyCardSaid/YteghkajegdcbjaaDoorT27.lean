/-
  TreeNobody: the walk.
-/
import Derived.Test.YteghkajegdcbjaaDoorT26
namespace Go.Proofs.YteghkajegdcbjaaDoor
open Go.RowKit
set_option maxRecDepth 100000
set_option maxHeartbeats 4000000
attribute [local go_sem ↓] Go.wp_at_zero Go.wp_at_succ

/-- What a tree that nobody made answers. -/
structure Nobody (w : World) (p : Value) : Prop where
  get : ∀ t u : Int, Calls Tryd.prog 19 #[p, .agg #[.int .i64 t, .int .i64 u]] w (Ret (.tuple #[.agg #[.int .i64 0, .int .i64 0, .int .i64 0, .int .i64 0, .string ⟨#[]⟩, .string ⟨#[]⟩], .bool false]) w)
  apply : ∀ (k a b c d x y : Int) (nm vl : ByteArray), Calls Tryd.prog 13 #[p, .agg #[.int .i64 k, .int .i64 a, .int .i64 b, .int .i64 c, .int .i64 d, .int .i64 x, .int .i64 y, .string nm, .string vl]] w (Ret (.int .i64 1) w)
  compact : ∀ t u : Int, Calls Tryd.prog 14 #[p, .agg #[.int .i64 t, .int .i64 u]] w (Ret (.int .i64 0) w)
  ops : Calls Tryd.prog 18 #[p] w (Ret (.slice none 0 0) w)
  nodes : Calls Tryd.prog 17 #[p] w (Ret (.slice none 0 0) w)
  fixed : Calls Tryd.prog 20 #[p] w (Ret (.slice none 0 0) w)
  base : Calls Tryd.prog 21 #[p] w (Ret (.agg #[.int .i64 0, .int .i64 0]) w)
theorem nobody_nil (w : World) : Nobody w (.pointer none) :=
  ⟨get_nil w, fun k a b c d x y nm vl => apply_nil w ⟨k, ⟨a, b⟩, ⟨c, d⟩, ⟨x, y⟩, nm, vl⟩, compact_nil w, ops_nil w, nodes_nil w, fixed_nil w, base_nil w⟩
theorem nobody_empty (w : World) (tb : Nat) (p q r v : Value) (h : Blk w tb [.map none, p, q, r, v] 43) : Nobody w (.pointer (some ⟨tb, 0, none⟩)) :=
  ⟨get_empty w tb p q r v h, fun k a b c d x y nm vl => apply_empty w tb ⟨k, ⟨a, b⟩, ⟨c, d⟩, ⟨x, y⟩, nm, vl⟩ p q r v h, fun t u => compact_empty w tb t u p q r v h, ops_empty w tb p q r v h, nodes_empty w tb p q r v h, fixed_empty w tb p q r v h, base_empty w tb p q r v h⟩

theorem eqNd (d : Nat) (w : World) : (Op.equalIn (d + 3) 46 (.agg #[.int .i64 0, .int .i64 0, .int .i64 0, .int .i64 0, .string ⟨#[]⟩, .string ⟨#[]⟩]) (.agg #[.int .i64 0, .int .i64 0, .int .i64 0, .int .i64 0, .string ⟨#[]⟩, .string ⟨#[]⟩])).run Tryd.prog w = .ok true w := by
  rw [run_equalIn_struct w (d + 2) 46 _ _ (by kernel_rfl) (by kernel_rfl)]
  go_simp

theorem nobody_any (w : World) (k a b c d x y t u : Int) (nm vl : ByteArray) (hT : Tabs w) :
    Calls Tryd.prog 4 #[.agg #[.int .i64 k, .int .i64 a, .int .i64 b, .int .i64 c, .int .i64 d, .int .i64 x, .int .i64 y, .string nm, .string vl], .agg #[.int .i64 t, .int .i64 u]] w (Ret (.bool true) w) := by
  have HT := Lib.hid hT
  clear hT
  go_enter Tryd.func4, Tryd.ntmps4
  go_wp2
  have hB1 := (((Blk.at_ w [.int .i64 k, .int .i64 a, .int .i64 b, .int .i64 c, .int .i64 d, .int .i64 x, .int .i64 y, .string nm, .string vl] 30 rfl).alloc (.cells #[.int .i64 t, .int .i64 u] 28)).alloc (.cells #[.map none, .map none, .slice none 0 0, .int .i64 0, .int .i64 0] 43)).alloc (.cells #[.pointer none, .pointer (some ⟨w.heap.size + 2, 0, none⟩)] 23)
  have hB2 := ((Blk.at_ (w.alloc (.cells #[.int .i64 k, .int .i64 a, .int .i64 b, .int .i64 c, .int .i64 d, .int .i64 x, .int .i64 y, .string nm, .string vl] 30)) [.int .i64 t, .int .i64 u] 28 (b := w.heap.size + 1) (by simp)).alloc (.cells #[.map none, .map none, .slice none 0 0, .int .i64 0, .int .i64 0] 43)).alloc (.cells #[.pointer none, .pointer (some ⟨w.heap.size + 2, 0, none⟩)] 23)
  have hB3 := (Blk.at_ ((w.alloc (.cells #[.int .i64 k, .int .i64 a, .int .i64 b, .int .i64 c, .int .i64 d, .int .i64 x, .int .i64 y, .string nm, .string vl] 30)).alloc (.cells #[.int .i64 t, .int .i64 u] 28)) [.map none, .map none, .slice none 0 0, .int .i64 0, .int .i64 0] 43 (b := w.heap.size + 2) (by simp)).alloc (.cells #[.pointer none, .pointer (some ⟨w.heap.size + 2, 0, none⟩)] 23)
  have hB4 := Blk.at_ (((w.alloc (.cells #[.int .i64 k, .int .i64 a, .int .i64 b, .int .i64 c, .int .i64 d, .int .i64 x, .int .i64 y, .string nm, .string vl] 30)).alloc (.cells #[.int .i64 t, .int .i64 u] 28)).alloc (.cells #[.map none, .map none, .slice none 0 0, .int .i64 0, .int .i64 0] 43)) [.pointer none, .pointer (some ⟨w.heap.size + 2, 0, none⟩)] 23 (b := w.heap.size + 3) (by simp)
  have hB0 : Below w.heap.size w ((((w.alloc (.cells #[.int .i64 k, .int .i64 a, .int .i64 b, .int .i64 c, .int .i64 d, .int .i64 x, .int .i64 y, .string nm, .string vl] 30)).alloc (.cells #[.int .i64 t, .int .i64 u] 28)).alloc (.cells #[.map none, .map none, .slice none 0 0, .int .i64 0, .int .i64 0] 43)).alloc (.cells #[.pointer none, .pointer (some ⟨w.heap.size + 2, 0, none⟩)] 23)) := ((((Below.refl _ _).alloc (Nat.le_refl _) _).alloc (by simp) _).alloc (by simp; omega) _).alloc (by simp; omega) _
  obtain ⟨W0, hW0⟩ : ∃ W0, (((w.alloc (.cells #[.int .i64 k, .int .i64 a, .int .i64 b, .int .i64 c, .int .i64 d, .int .i64 x, .int .i64 y, .string nm, .string vl] 30)).alloc (.cells #[.int .i64 t, .int .i64 u] 28)).alloc (.cells #[.map none, .map none, .slice none 0 0, .int .i64 0, .int .i64 0] 43)).alloc (.cells #[.pointer none, .pointer (some ⟨w.heap.size + 2, 0, none⟩)] 23) = W0 := ⟨_, rfl⟩
  rw [hW0] at hB0 hB1 hB2 hB3 hB4
  go_loopg [6] 3 (fun gk v6 wr => ∃ j : Nat, v6 = .int .i64 j ∧ j ≤ 2 ∧ 2 < j + gk ∧ Below w.heap.size w wr ∧ Blk wr w.heap.size [.int .i64 k, .int .i64 a, .int .i64 b, .int .i64 c, .int .i64 d, .int .i64 x, .int .i64 y, .string nm, .string vl] 30 ∧ Blk wr (w.heap.size + 1) [.int .i64 t, .int .i64 u] 28 ∧ Blk wr (w.heap.size + 2) [.map none, .map none, .slice none 0 0, .int .i64 0, .int .i64 0] 43 ∧ Blk wr (w.heap.size + 3) [.pointer none, .pointer (some ⟨w.heap.size + 2, 0, none⟩)] 23)
  case atStart =>
    subst hW0
    exact ⟨0, rfl, by omega, by omega, hB0, hB1, hB2, hB3, hB4⟩
  case round =>
    clear hB0 hB1 hB2 hB3 hB4 hW0
    obtain ⟨j, rfl, hj, hm, h0, h1, h2, h3, h4⟩ := hrel
    by_cases hj2 : j < 2
    · obtain ⟨p, hp, hN⟩ : ∃ p, wr.cell? ⟨w.heap.size + 3, j, none⟩ = some p ∧ ∀ W, Below wr.heap.size wr W → Nobody W p := by
        match j, hj2 with
        | 0, _ => exact ⟨_, h4.cell 0 rfl, fun W _ => nobody_nil W⟩
        | 1, _ => exact ⟨_, h4.cell 1 rfl, fun W hW => nobody_empty W _ _ _ _ _ (h3.below hW h3.lt)⟩
      have K : ∀ w', Below wr.heap.size wr w' → (w'.cell? ⟨w.heap.size, 0, none⟩ = some (.int .i64 k) ∧ w'.cell? ⟨w.heap.size, 1, none⟩ = some (.int .i64 a) ∧ w'.cell? ⟨w.heap.size, 2, none⟩ = some (.int .i64 b) ∧ w'.cell? ⟨w.heap.size, 3, none⟩ = some (.int .i64 c) ∧ w'.cell? ⟨w.heap.size, 4, none⟩ = some (.int .i64 d) ∧ w'.cell? ⟨w.heap.size, 5, none⟩ = some (.int .i64 x) ∧ w'.cell? ⟨w.heap.size, 6, none⟩ = some (.int .i64 y) ∧ w'.cell? ⟨w.heap.size, 7, none⟩ = some (.string nm) ∧ w'.cell? ⟨w.heap.size, 8, none⟩ = some (.string vl) ∧ w'.cell? ⟨w.heap.size + 1, 0, none⟩ = some (.int .i64 t) ∧ w'.cell? ⟨w.heap.size + 1, 1, none⟩ = some (.int .i64 u) ∧ w'.cell? ⟨w.heap.size + 3, j, none⟩ = some p ∧ Below wr.heap.size wr w') := fun w' hw => by
        obtain ⟨hc, hf⟩ := bcell hw
        exact ⟨(hc _ _ h1.lt).trans (h1.cell 0 rfl), (hc _ _ h1.lt).trans (h1.cell 1 rfl), (hc _ _ h1.lt).trans (h1.cell 2 rfl), (hc _ _ h1.lt).trans (h1.cell 3 rfl), (hc _ _ h1.lt).trans (h1.cell 4 rfl), (hc _ _ h1.lt).trans (h1.cell 5 rfl), (hc _ _ h1.lt).trans (h1.cell 6 rfl), (hc _ _ h1.lt).trans (h1.cell 7 rfl), (hc _ _ h1.lt).trans (h1.cell 8 rfl), (hc _ _ h2.lt).trans (h2.cell 0 rfl), (hc _ _ h2.lt).trans (h2.cell 1 rfl), (hc _ _ h4.lt).trans hp, hw⟩
      have HN := Lib.hid hN
      have H0 := Lib.hid h0
      have H1 := Lib.hid h1
      have H2 := Lib.hid h2
      have H3 := Lib.hid h3
      have H4 := Lib.hid h4
      have hj5 : (j : Int) < 2 := by omega
      have hj6 : (0 : Int) ≤ j := by omega
      have hj7 : (j : Int).toNat = j := by omega
      have hk0 : Below wr.heap.size wr wr.drew := (Below.refl _ _).drew
      have hk1 : ∀ o, Below wr.heap.size wr (wr.alloc o).drew := fun o => ((Below.refl _ _).alloc (Nat.le_refl _) o).drew
      have E1 := fun W => eqNd 9997 W
      clear hN h0 h1 h2 h3 h4 hp
      go_wp2
      go_region_held3 (fun w' => w'.cell? ⟨w.heap.size, 0, none⟩ = some (.int .i64 k) ∧ w'.cell? ⟨w.heap.size, 1, none⟩ = some (.int .i64 a) ∧ w'.cell? ⟨w.heap.size, 2, none⟩ = some (.int .i64 b) ∧ w'.cell? ⟨w.heap.size, 3, none⟩ = some (.int .i64 c) ∧ w'.cell? ⟨w.heap.size, 4, none⟩ = some (.int .i64 d) ∧ w'.cell? ⟨w.heap.size, 5, none⟩ = some (.int .i64 x) ∧ w'.cell? ⟨w.heap.size, 6, none⟩ = some (.int .i64 y) ∧ w'.cell? ⟨w.heap.size, 7, none⟩ = some (.string nm) ∧ w'.cell? ⟨w.heap.size, 8, none⟩ = some (.string vl) ∧ w'.cell? ⟨w.heap.size + 1, 0, none⟩ = some (.int .i64 t) ∧ w'.cell? ⟨w.heap.size + 1, 1, none⟩ = some (.int .i64 u) ∧ w'.cell? ⟨w.heap.size + 3, j, none⟩ = some p ∧ Below wr.heap.size wr w') ((refine K _ ?_; (repeat (first | with_reducible exact hk0 | with_reducible exact hk1 _ | with_reducible refine Below.drew ?_ | with_reducible refine Below.alloc ?_ ?_ _ | with_reducible refine Below.setCell ?_ ?_ _)); all_goals (first | exact hk0.size | exact Nat.le_refl _))) (first
        | (go_at_call 19; (with_reducible refine ((HN.out _ hk0).get _ _).mono ?_); rintro e w5 ⟨rfl, hb5⟩; replace hk0 := below_up hk0 hb5 hk0.size)
        | (go_at_call 19; (with_reducible refine ((HN.out _ (hk1 _)).get _ _).mono ?_); rintro e w5 ⟨rfl, hb5⟩; replace hk0 := below_up (hk1 _) hb5 (hk1 _).size; obtain ⟨hc5, hf5⟩ := bcell hb5; have hz5 := hb5.size; simp at hz5))
      all_goals go_wp2
      · have hN1 := Blk.at_ w5 [.int .i64 0, .int .i64 0, .int .i64 0, .int .i64 0, .string ⟨#[]⟩, .string ⟨#[]⟩] 46 rfl
        replace hk0 := hk0.alloc hk0.size (.cells #[.int .i64 0, .int .i64 0, .int .i64 0, .int .i64 0, .string ⟨#[]⟩, .string ⟨#[]⟩] 46)
        clear hb5 hk1
        generalize w5.alloc (.cells #[.int .i64 0, .int .i64 0, .int .i64 0, .int .i64 0, .string ⟨#[]⟩, .string ⟨#[]⟩] 46) = W1 at *
        have K1 : ∀ w', Below W1.heap.size W1 w' → (w'.cell? ⟨w5.heap.size, 0, none⟩ = some (.int .i64 0) ∧ w'.cell? ⟨w5.heap.size, 1, none⟩ = some (.int .i64 0) ∧ w'.cell? ⟨w5.heap.size, 2, none⟩ = some (.int .i64 0) ∧ w'.cell? ⟨w5.heap.size, 3, none⟩ = some (.int .i64 0) ∧ w'.cell? ⟨w5.heap.size, 4, none⟩ = some (.string ⟨#[]⟩) ∧ w'.cell? ⟨w5.heap.size, 5, none⟩ = some (.string ⟨#[]⟩) ∧ w'.cell? ⟨w.heap.size, 0, none⟩ = some (.int .i64 k) ∧ w'.cell? ⟨w.heap.size, 1, none⟩ = some (.int .i64 a) ∧ w'.cell? ⟨w.heap.size, 2, none⟩ = some (.int .i64 b) ∧ w'.cell? ⟨w.heap.size, 3, none⟩ = some (.int .i64 c) ∧ w'.cell? ⟨w.heap.size, 4, none⟩ = some (.int .i64 d) ∧ w'.cell? ⟨w.heap.size, 5, none⟩ = some (.int .i64 x) ∧ w'.cell? ⟨w.heap.size, 6, none⟩ = some (.int .i64 y) ∧ w'.cell? ⟨w.heap.size, 7, none⟩ = some (.string nm) ∧ w'.cell? ⟨w.heap.size, 8, none⟩ = some (.string vl) ∧ w'.cell? ⟨w.heap.size + 1, 0, none⟩ = some (.int .i64 t) ∧ w'.cell? ⟨w.heap.size + 1, 1, none⟩ = some (.int .i64 u) ∧ w'.cell? ⟨w.heap.size + 3, j, none⟩ = some p ∧ Below W1.heap.size W1 w') := fun w' hw => by
          obtain ⟨q0, q1, q2, q3, q4, q5, q6, q7, q8, q9, q10, q11, _⟩ := K w' (below_up hk0 hw hk0.size)
          have q := hN1.below hw hN1.lt
          exact ⟨q.cell 0 rfl, q.cell 1 rfl, q.cell 2 rfl, q.cell 3 rfl, q.cell 4 rfl, q.cell 5 rfl, q0, q1, q2, q3, q4, q5, q6, q7, q8, q9, q10, q11, hw⟩
        have HN1 := Lib.hid (fun W (hW : Below W1.heap.size W1 W) => HN.out W (below_up hk0 hW hk0.size))
        have hk2 : Below W1.heap.size W1 W1.drew := (Below.refl _ _).drew
        have HK0 := Lib.hid hk0
        have HNN := Lib.hid hN1
        clear hN1 hk0 K
        go_region_held3 (fun w' => w'.cell? ⟨w5.heap.size, 0, none⟩ = some (.int .i64 0) ∧ w'.cell? ⟨w5.heap.size, 1, none⟩ = some (.int .i64 0) ∧ w'.cell? ⟨w5.heap.size, 2, none⟩ = some (.int .i64 0) ∧ w'.cell? ⟨w5.heap.size, 3, none⟩ = some (.int .i64 0) ∧ w'.cell? ⟨w5.heap.size, 4, none⟩ = some (.string ⟨#[]⟩) ∧ w'.cell? ⟨w5.heap.size, 5, none⟩ = some (.string ⟨#[]⟩) ∧ w'.cell? ⟨w.heap.size, 0, none⟩ = some (.int .i64 k) ∧ w'.cell? ⟨w.heap.size, 1, none⟩ = some (.int .i64 a) ∧ w'.cell? ⟨w.heap.size, 2, none⟩ = some (.int .i64 b) ∧ w'.cell? ⟨w.heap.size, 3, none⟩ = some (.int .i64 c) ∧ w'.cell? ⟨w.heap.size, 4, none⟩ = some (.int .i64 d) ∧ w'.cell? ⟨w.heap.size, 5, none⟩ = some (.int .i64 x) ∧ w'.cell? ⟨w.heap.size, 6, none⟩ = some (.int .i64 y) ∧ w'.cell? ⟨w.heap.size, 7, none⟩ = some (.string nm) ∧ w'.cell? ⟨w.heap.size, 8, none⟩ = some (.string vl) ∧ w'.cell? ⟨w.heap.size + 1, 0, none⟩ = some (.int .i64 t) ∧ w'.cell? ⟨w.heap.size + 1, 1, none⟩ = some (.int .i64 u) ∧ w'.cell? ⟨w.heap.size + 3, j, none⟩ = some p ∧ Below W1.heap.size W1 w') (exact K1 _ hk2) (first
          | (go_at_call 13; (with_reducible refine ((HN1.out _ hk2).apply _ _ _ _ _ _ _ _ _).mono ?_); rintro e w6 ⟨rfl, hb6⟩; replace hk2 := below_up hk2 hb6 hk2.size)
          | (go_at_call 14; (with_reducible refine ((HN1.out _ hk2).compact _ _).mono ?_); rintro e w6 ⟨rfl, hb6⟩; replace hk2 := below_up hk2 hb6 hk2.size)
          | (go_at_call 18; (with_reducible refine ((HN1.out _ hk2).ops).mono ?_); rintro e w6 ⟨rfl, hb6⟩; replace hk2 := below_up hk2 hb6 hk2.size)
          | (go_at_call 17; (with_reducible refine ((HN1.out _ hk2).nodes).mono ?_); rintro e w6 ⟨rfl, hb6⟩; replace hk2 := below_up hk2 hb6 hk2.size)
          | (go_at_call 20; (with_reducible refine ((HN1.out _ hk2).fixed).mono ?_); rintro e w6 ⟨rfl, hb6⟩; replace hk2 := below_up hk2 hb6 hk2.size)
          | (go_at_call 21; (with_reducible refine ((HN1.out _ hk2).base).mono ?_); rintro e w6 ⟨rfl, hb6⟩; replace hk2 := below_up hk2 hb6 hk2.size))
        go_wp2
        go_roundg (2 - j)
        case measure => omega
        case rel =>
          have hb : Below wr.heap.size wr _ := below_up HK0.out hk2 HK0.out.size
          exact ⟨j + 1, by go_num, by omega, by omega, below_up H0.out hb H0.out.size, H1.out.below hb H1.out.lt, H2.out.below hb H2.out.lt, H3.out.below hb H3.out.lt, H4.out.below hb H4.out.lt⟩
      · have hN1 := (((((((Blk.at_ wr [.int .i64 0, .int .i64 0, .int .i64 0, .int .i64 0, .string ⟨#[]⟩, .string ⟨#[]⟩] 46 rfl).of_block (hb5.block wr.heap.size (by simp))).set 0 (.int .i64 0)).set 1 (.int .i64 0)).set 2 (.int .i64 0)).set 3 (.int .i64 0)).set 4 (.string ⟨#[]⟩)).set 5 (.string ⟨#[]⟩)
        replace hk0 : Below wr.heap.size wr ((((((w5.setCell ⟨wr.heap.size, 0, none⟩ (.int .i64 0)).setCell ⟨wr.heap.size, 1, none⟩ (.int .i64 0)).setCell ⟨wr.heap.size, 2, none⟩ (.int .i64 0)).setCell ⟨wr.heap.size, 3, none⟩ (.int .i64 0)).setCell ⟨wr.heap.size, 4, none⟩ (.string ⟨#[]⟩)).setCell ⟨wr.heap.size, 5, none⟩ (.string ⟨#[]⟩)) := (((((hk0.setCell (Nat.le_refl _) _).setCell (Nat.le_refl _) _).setCell (Nat.le_refl _) _).setCell (Nat.le_refl _) _).setCell (Nat.le_refl _) _).setCell (Nat.le_refl _) _
        clear hc5 hf5 hz5 hb5 hk1
        generalize (((((w5.setCell ⟨wr.heap.size, 0, none⟩ (.int .i64 0)).setCell ⟨wr.heap.size, 1, none⟩ (.int .i64 0)).setCell ⟨wr.heap.size, 2, none⟩ (.int .i64 0)).setCell ⟨wr.heap.size, 3, none⟩ (.int .i64 0)).setCell ⟨wr.heap.size, 4, none⟩ (.string ⟨#[]⟩)).setCell ⟨wr.heap.size, 5, none⟩ (.string ⟨#[]⟩) = W1 at *
        have K1 : ∀ w', Below W1.heap.size W1 w' → (w'.cell? ⟨wr.heap.size, 0, none⟩ = some (.int .i64 0) ∧ w'.cell? ⟨wr.heap.size, 1, none⟩ = some (.int .i64 0) ∧ w'.cell? ⟨wr.heap.size, 2, none⟩ = some (.int .i64 0) ∧ w'.cell? ⟨wr.heap.size, 3, none⟩ = some (.int .i64 0) ∧ w'.cell? ⟨wr.heap.size, 4, none⟩ = some (.string ⟨#[]⟩) ∧ w'.cell? ⟨wr.heap.size, 5, none⟩ = some (.string ⟨#[]⟩) ∧ w'.cell? ⟨w.heap.size, 0, none⟩ = some (.int .i64 k) ∧ w'.cell? ⟨w.heap.size, 1, none⟩ = some (.int .i64 a) ∧ w'.cell? ⟨w.heap.size, 2, none⟩ = some (.int .i64 b) ∧ w'.cell? ⟨w.heap.size, 3, none⟩ = some (.int .i64 c) ∧ w'.cell? ⟨w.heap.size, 4, none⟩ = some (.int .i64 d) ∧ w'.cell? ⟨w.heap.size, 5, none⟩ = some (.int .i64 x) ∧ w'.cell? ⟨w.heap.size, 6, none⟩ = some (.int .i64 y) ∧ w'.cell? ⟨w.heap.size, 7, none⟩ = some (.string nm) ∧ w'.cell? ⟨w.heap.size, 8, none⟩ = some (.string vl) ∧ w'.cell? ⟨w.heap.size + 1, 0, none⟩ = some (.int .i64 t) ∧ w'.cell? ⟨w.heap.size + 1, 1, none⟩ = some (.int .i64 u) ∧ w'.cell? ⟨w.heap.size + 3, j, none⟩ = some p ∧ Below W1.heap.size W1 w') := fun w' hw => by
          obtain ⟨q0, q1, q2, q3, q4, q5, q6, q7, q8, q9, q10, q11, _⟩ := K w' (below_up hk0 hw hk0.size)
          have q := hN1.below hw hN1.lt
          exact ⟨q.cell 0 rfl, q.cell 1 rfl, q.cell 2 rfl, q.cell 3 rfl, q.cell 4 rfl, q.cell 5 rfl, q0, q1, q2, q3, q4, q5, q6, q7, q8, q9, q10, q11, hw⟩
        have HN1 := Lib.hid (fun W (hW : Below W1.heap.size W1 W) => HN.out W (below_up hk0 hW hk0.size))
        have hk2 : Below W1.heap.size W1 W1.drew := (Below.refl _ _).drew
        have HK0 := Lib.hid hk0
        have HNN := Lib.hid hN1
        clear hN1 hk0 K
        go_region_held3 (fun w' => w'.cell? ⟨wr.heap.size, 0, none⟩ = some (.int .i64 0) ∧ w'.cell? ⟨wr.heap.size, 1, none⟩ = some (.int .i64 0) ∧ w'.cell? ⟨wr.heap.size, 2, none⟩ = some (.int .i64 0) ∧ w'.cell? ⟨wr.heap.size, 3, none⟩ = some (.int .i64 0) ∧ w'.cell? ⟨wr.heap.size, 4, none⟩ = some (.string ⟨#[]⟩) ∧ w'.cell? ⟨wr.heap.size, 5, none⟩ = some (.string ⟨#[]⟩) ∧ w'.cell? ⟨w.heap.size, 0, none⟩ = some (.int .i64 k) ∧ w'.cell? ⟨w.heap.size, 1, none⟩ = some (.int .i64 a) ∧ w'.cell? ⟨w.heap.size, 2, none⟩ = some (.int .i64 b) ∧ w'.cell? ⟨w.heap.size, 3, none⟩ = some (.int .i64 c) ∧ w'.cell? ⟨w.heap.size, 4, none⟩ = some (.int .i64 d) ∧ w'.cell? ⟨w.heap.size, 5, none⟩ = some (.int .i64 x) ∧ w'.cell? ⟨w.heap.size, 6, none⟩ = some (.int .i64 y) ∧ w'.cell? ⟨w.heap.size, 7, none⟩ = some (.string nm) ∧ w'.cell? ⟨w.heap.size, 8, none⟩ = some (.string vl) ∧ w'.cell? ⟨w.heap.size + 1, 0, none⟩ = some (.int .i64 t) ∧ w'.cell? ⟨w.heap.size + 1, 1, none⟩ = some (.int .i64 u) ∧ w'.cell? ⟨w.heap.size + 3, j, none⟩ = some p ∧ Below W1.heap.size W1 w') (exact K1 _ hk2) (first
          | (go_at_call 13; (with_reducible refine ((HN1.out _ hk2).apply _ _ _ _ _ _ _ _ _).mono ?_); rintro e w6 ⟨rfl, hb6⟩; replace hk2 := below_up hk2 hb6 hk2.size)
          | (go_at_call 14; (with_reducible refine ((HN1.out _ hk2).compact _ _).mono ?_); rintro e w6 ⟨rfl, hb6⟩; replace hk2 := below_up hk2 hb6 hk2.size)
          | (go_at_call 18; (with_reducible refine ((HN1.out _ hk2).ops).mono ?_); rintro e w6 ⟨rfl, hb6⟩; replace hk2 := below_up hk2 hb6 hk2.size)
          | (go_at_call 17; (with_reducible refine ((HN1.out _ hk2).nodes).mono ?_); rintro e w6 ⟨rfl, hb6⟩; replace hk2 := below_up hk2 hb6 hk2.size)
          | (go_at_call 20; (with_reducible refine ((HN1.out _ hk2).fixed).mono ?_); rintro e w6 ⟨rfl, hb6⟩; replace hk2 := below_up hk2 hb6 hk2.size)
          | (go_at_call 21; (with_reducible refine ((HN1.out _ hk2).base).mono ?_); rintro e w6 ⟨rfl, hb6⟩; replace hk2 := below_up hk2 hb6 hk2.size))
        go_wp2
        go_roundg (2 - j)
        case measure => omega
        case rel =>
          have hb : Below wr.heap.size wr _ := below_up HK0.out hk2 HK0.out.size
          exact ⟨j + 1, by go_num, by omega, by omega, below_up H0.out hb H0.out.size, H1.out.below hb H1.out.lt, H2.out.below hb H2.out.lt, H3.out.below hb H3.out.lt, H4.out.below hb H4.out.lt⟩
    · obtain rfl : j = 2 := by omega
      have HA := Lib.hid (awake_any wr (Tabs.below HT.out h0 (Nat.le_refl _)))
      clear h1 h2 h3 h4 HT
      go_wp2_with (go_at_call 12; (with_reducible refine HA.out.mono ?_); rintro e w6 ⟨rfl, hb6⟩)
      go_ret
      exact ⟨rfl, below_up h0 hb6 h0.size⟩
end Go.Proofs.YteghkajegdcbjaaDoor
