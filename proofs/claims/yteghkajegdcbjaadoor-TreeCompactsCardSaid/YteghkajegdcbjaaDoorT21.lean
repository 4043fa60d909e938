/-
  Apply: what it answers, and what the tree is behind it.
-/
import Derived.Test.YteghkajegdcbjaaDoorT17
import Derived.Test.YteghkajegdcbjaaDoorT20
import Derived.Test.YteghkajegdcbjaaDoorP4
import Derived.Deep.RegionHeld3
import Derived.Deep.QuietTactic
import Derived.BigQuiet
import Derived.Deep.RegionWith
namespace Go.Proofs.YteghkajegdcbjaaDoor
open Go.RowKit
set_option maxRecDepth 100000
set_option maxHeartbeats 1000000

theorem apply_nil (w : World) (o : Opn) : Calls Tryd.prog 13 #[.pointer none, o.v] w (Ret (.int .i64 1) w) := by
  obtain ⟨k, ⟨a, b⟩, ⟨c, d⟩, ⟨x, y⟩, nm, vl⟩ := o
  simp only [Opn.v]
  have hg : ∀ W, Calls Tryd.prog 35 #[.pointer none] W fun e w' => e = .returned (.bool false) ∧ w' = W := fun W => (given_nil W).mono (fun _ _ h => ⟨h.1, h.2.symm⟩)
  have HG := Lib.hid hg
  clear hg
  go_enter Tryd.func13, Tryd.ntmps13
  go_wp2
  go_quiet ((go_at_call 35; refine Calls.quiet_of_same (HG.out _)))
  go_wp2
  go_ret
  exact ⟨rfl, below_drewNv ((Below.refl _ _).alloc (Nat.le_refl _) _) _⟩

theorem apply_empty (w : World) (tb : Nat) (o : Opn) (p q r u : Value) (h : Blk w tb [.map none, p, q, r, u] 43) : Calls Tryd.prog 13 #[.pointer (some ⟨tb, 0, none⟩), o.v] w (Ret (.int .i64 1) w) := by
  obtain ⟨k, ⟨a, b⟩, ⟨c, d⟩, ⟨x, y⟩, nm, vl⟩ := o
  simp only [Opn.v]
  have hg : ∀ n, Calls Tryd.prog 35 #[.pointer (some ⟨tb, 0, none⟩)] ((w.alloc (.cells #[.int .i64 k, .int .i64 a, .int .i64 b, .int .i64 c, .int .i64 d, .int .i64 x, .int .i64 y, .string nm, .string vl] 30)).drewN n) fun e w' => e = .returned (.bool false) ∧ w' = (w.alloc (.cells #[.int .i64 k, .int .i64 a, .int .i64 b, .int .i64 c, .int .i64 d, .int .i64 x, .int .i64 y, .string nm, .string vl] 30)).drewN n := fun n => (given_empty ((w.alloc (.cells #[.int .i64 k, .int .i64 a, .int .i64 b, .int .i64 c, .int .i64 d, .int .i64 x, .int .i64 y, .string nm, .string vl] 30)).drewN n) tb p q r u (Blk.of_block (w := w.alloc (.cells #[.int .i64 k, .int .i64 a, .int .i64 b, .int .i64 c, .int .i64 d, .int .i64 x, .int .i64 y, .string nm, .string vl] 30)) (h.alloc _) rfl)).mono (fun _ _ h => ⟨h.1, h.2.symm⟩)
  have HG := Lib.hid hg
  clear hg h
  go_enter Tryd.func13, Tryd.ntmps13
  go_wp2
  go_quiet ((go_at_call 35; refine Calls.quiet_of_same (HG.out _)))
  go_wp2
  go_ret
  exact ⟨rfl, below_drewNv ((Below.refl _ _).alloc (Nat.le_refl _) _) _⟩

/-- What Apply leaves. -/
def Applied (tb : Nat) (F : List Nat) (T : Tr) (o : Opn) (w : World) (e : Ending) (w' : World) : Prop :=
  ∃ F', e = .returned (.int .i64 (applyN T o).2) ∧ TreeAt w' tb F' (applyN T o).1 ∧ Fr F w w' ∧ ∀ x ∈ F', x ∈ F ∨ w.heap.size ≤ x

theorem apply_bad (w : World) (tb : Nat) (F : List Nat) (T : Tr) (o : Opn) (h : TreeAt w tb F T) (hT : Tabs w) (hs : o.nm.size ≤ 4611686018427387904) (hb : okOp o = false) :
    Calls Tryd.prog 13 #[.pointer (some ⟨tb, 0, none⟩), o.v] w (Ret (.int .i64 1) w) := by
  obtain ⟨k, ⟨a, b⟩, ⟨c, d⟩, ⟨x, y⟩, nm, vl⟩ := o
  have hg : ∀ W, Below w.heap.size w W → Calls Tryd.prog 35 #[.pointer (some ⟨tb, 0, none⟩)] W fun e w' => e = .returned (.bool true) ∧ W = w' := fun W hW => given_any W tb F T (h.below hW h.lt)
  have hc : ∀ W, Below w.heap.size w W → Calls Tryd.prog 36 #[.agg #[.int .i64 k, .int .i64 a, .int .i64 b, .int .i64 c, .int .i64 d, .int .i64 x, .int .i64 y, .string nm, .string vl]] W (Ret (.int .i64 1) W) := fun W hW => by
    have := check_any W ⟨k, ⟨a, b⟩, ⟨c, d⟩, ⟨x, y⟩, nm, vl⟩ hs (Tabs.below hT hW (Nat.le_refl _))
    rw [hb] at this
    exact this
  have HG := Lib.hid hg
  have HC := Lib.hid hc
  have hB := Blk.at_ w [.int .i64 k, .int .i64 a, .int .i64 b, .int .i64 c, .int .i64 d, .int .i64 x, .int .i64 y, .string nm, .string vl] 30 rfl
  have hk0 : Below w.heap.size w (w.alloc (.cells #[.int .i64 k, .int .i64 a, .int .i64 b, .int .i64 c, .int .i64 d, .int .i64 x, .int .i64 y, .string nm, .string vl] 30)).drew := ((Below.refl _ _).alloc (Nat.le_refl _) _).drew
  have hsz : w.heap.size ≤ (w.alloc (.cells #[.int .i64 k, .int .i64 a, .int .i64 b, .int .i64 c, .int .i64 d, .int .i64 x, .int .i64 y, .string nm, .string vl] 30)).drew.heap.size := hk0.size
  clear hg hc h hT hb
  simp only [Opn.v]
  go_enter Tryd.func13, Tryd.ntmps13
  go_wp2
  first
    | go_region_with ((first
      | (go_at_call 35; refine (HG.out _ hk0).mono ?_; rintro e w1 ⟨rfl, rfl⟩)
      | (go_at_call 36; refine (HC.out _ hk0).mono ?_; rintro e w1 ⟨rfl, hb⟩)))
    | fail "with"
  all_goals
    go_wp2
    all_goals
      go_ret
      exact ⟨rfl, below_up hk0 hb hsz⟩
end Go.Proofs.YteghkajegdcbjaaDoor
