/-
  Apply of an operation that may be.
-/
import Derived.Test.YteghkajegdcbjaaDoorT21
namespace Go.Proofs.YteghkajegdcbjaaDoor
open Go.RowKit
set_option maxRecDepth 100000
set_option maxHeartbeats 4000000

theorem apply_late (w : World) (tb : Nat) (F : List Nat) (T : Tr) (o : Opn) (h : TreeAt w tb F T) (hT : Tabs w) (hs : o.nm.size ≤ 4611686018427387904) (hb : okOp o = true) (hl : T.base.lt o.at_ = false) :
    Calls Tryd.prog 13 #[.pointer (some ⟨tb, 0, none⟩), o.v] w (Ret (.int .i64 1) w) := by
  obtain ⟨k, ⟨a, b⟩, ⟨c, d⟩, ⟨x, y⟩, nm, vl⟩ := o
  have hg : ∀ W, Below w.heap.size w W → Calls Tryd.prog 35 #[.pointer (some ⟨tb, 0, none⟩)] W fun e w' => e = .returned (.bool true) ∧ W = w' := fun W hW => given_any W tb F T (h.below hW h.lt)
  have hc : ∀ W, Below w.heap.size w W → Calls Tryd.prog 36 #[.agg #[.int .i64 k, .int .i64 a, .int .i64 b, .int .i64 c, .int .i64 d, .int .i64 x, .int .i64 y, .string nm, .string vl]] W (Ret (.int .i64 0) W) := fun W hW => by
    have := check_any W ⟨k, ⟨a, b⟩, ⟨c, d⟩, ⟨x, y⟩, nm, vl⟩ hs (Tabs.below hT hW (Nat.le_refl _))
    rw [hb] at this
    exact this
  have hle : ∀ W, Calls Tryd.prog 37 #[.agg #[.int .i64 T.base.t, .int .i64 T.base.u], .agg #[.int .i64 a, .int .i64 b]] W (Ret (.bool false) W) := fun W => by
    have := less_any T.base.t T.base.u a b W
    rw [show lessP T.base.t T.base.u a b = false from hl] at this
    exact this
  have HG := Lib.hid hg
  have HC := Lib.hid hc
  have HL := Lib.hid hle
  obtain ⟨bf, bn, sv, h1, h2, h3, h4, rfl, h5, h6⟩ := h
  have hB := Blk.at_ w [.int .i64 k, .int .i64 a, .int .i64 b, .int .i64 c, .int .i64 d, .int .i64 x, .int .i64 y, .string nm, .string vl] 30 rfl
  have h1' := h1.alloc (.cells #[.int .i64 k, .int .i64 a, .int .i64 b, .int .i64 c, .int .i64 d, .int .i64 x, .int .i64 y, .string nm, .string vl] 30)
  have hlt := h1.lt
  have hW : Below w.heap.size w (w.alloc (.cells #[.int .i64 k, .int .i64 a, .int .i64 b, .int .i64 c, .int .i64 d, .int .i64 x, .int .i64 y, .string nm, .string vl] 30)) := (Below.refl _ _).alloc (Nat.le_refl _) _
  have hsz : (w.alloc (.cells #[.int .i64 k, .int .i64 a, .int .i64 b, .int .i64 c, .int .i64 d, .int .i64 x, .int .i64 y, .string nm, .string vl] 30)).heap.size = w.heap.size + 1 := by simp
  clear hg hc hle hT hb h1 h2 h3 h4 h5 h6 hl
  simp only [Opn.v]
  go_enter Tryd.func13, Tryd.ntmps13
  go_wp2
  generalize w.alloc (.cells #[.int .i64 k, .int .i64 a, .int .i64 b, .int .i64 c, .int .i64 d, .int .i64 x, .int .i64 y, .string nm, .string vl] 30) = W0 at *
  have K : ∀ w' : World, Below W0.heap.size W0 w' → (w'.cell? ⟨w.heap.size, 0, none⟩ = some (.int .i64 k) ∧ w'.cell? ⟨w.heap.size, 1, none⟩ = some (.int .i64 a) ∧ w'.cell? ⟨w.heap.size, 2, none⟩ = some (.int .i64 b) ∧ w'.cell? ⟨w.heap.size, 3, none⟩ = some (.int .i64 c) ∧ w'.cell? ⟨w.heap.size, 4, none⟩ = some (.int .i64 d) ∧ w'.cell? ⟨w.heap.size, 5, none⟩ = some (.int .i64 x) ∧ w'.cell? ⟨w.heap.size, 6, none⟩ = some (.int .i64 y) ∧ w'.cell? ⟨w.heap.size, 7, none⟩ = some (.string nm) ∧ w'.cell? ⟨w.heap.size, 8, none⟩ = some (.string vl) ∧ w'.cell? ⟨tb, 3, none⟩ = some (.int .i64 T.base.t) ∧ w'.cell? ⟨tb, 4, none⟩ = some (.int .i64 T.base.u) ∧ Below W0.heap.size W0 w') := fun w' hw => by
    obtain ⟨hc, hf⟩ := bcell hw
    exact ⟨(hc _ _ hB.lt).trans (hB.cell 0 rfl), (hc _ _ hB.lt).trans (hB.cell 1 rfl), (hc _ _ hB.lt).trans (hB.cell 2 rfl), (hc _ _ hB.lt).trans (hB.cell 3 rfl), (hc _ _ hB.lt).trans (hB.cell 4 rfl), (hc _ _ hB.lt).trans (hB.cell 5 rfl), (hc _ _ hB.lt).trans (hB.cell 6 rfl), (hc _ _ hB.lt).trans (hB.cell 7 rfl), (hc _ _ hB.lt).trans (hB.cell 8 rfl), (hc _ _ h1'.lt).trans (h1'.cell 3 rfl), (hc _ _ h1'.lt).trans (h1'.cell 4 rfl), hw⟩
  have hk0 : Below W0.heap.size W0 W0.drew := (Below.refl _ _).drew
  have hup : ∀ w', Below W0.heap.size W0 w' → Below w.heap.size w w' := fun w' hw => below_up hW hw (by omega)
  have HU := Lib.hid hup
  clear hup
  go_region_held3 (fun w' => w'.cell? ⟨w.heap.size, 0, none⟩ = some (.int .i64 k) ∧ w'.cell? ⟨w.heap.size, 1, none⟩ = some (.int .i64 a) ∧ w'.cell? ⟨w.heap.size, 2, none⟩ = some (.int .i64 b) ∧ w'.cell? ⟨w.heap.size, 3, none⟩ = some (.int .i64 c) ∧ w'.cell? ⟨w.heap.size, 4, none⟩ = some (.int .i64 d) ∧ w'.cell? ⟨w.heap.size, 5, none⟩ = some (.int .i64 x) ∧ w'.cell? ⟨w.heap.size, 6, none⟩ = some (.int .i64 y) ∧ w'.cell? ⟨w.heap.size, 7, none⟩ = some (.string nm) ∧ w'.cell? ⟨w.heap.size, 8, none⟩ = some (.string vl) ∧ w'.cell? ⟨tb, 3, none⟩ = some (.int .i64 T.base.t) ∧ w'.cell? ⟨tb, 4, none⟩ = some (.int .i64 T.base.u) ∧ Below W0.heap.size W0 w') (first | exact K _ hk0 | exact K _ hk1 | exact K _ hk2) (first
    | (go_at_call 35; refine (HG.out _ (HU.out _ hk0)).mono ?_; rintro e w1 ⟨rfl, rfl⟩)
    | (go_at_call 36; refine (HC.out _ (HU.out _ hk0)).mono ?_; rintro e w1 ⟨rfl, hb1⟩; have hk1 := below_up hk0 hb1 (Nat.le_refl _))
    | (go_at_call 37; refine (HL.out _).mono ?_; rintro e w2 ⟨rfl, hb2⟩; have hk2 := below_up hk1 hb2 hk1.size))
  go_wp2
  go_ret
  exact ⟨rfl, HU.out _ hk2⟩
end Go.Proofs.YteghkajegdcbjaaDoor
