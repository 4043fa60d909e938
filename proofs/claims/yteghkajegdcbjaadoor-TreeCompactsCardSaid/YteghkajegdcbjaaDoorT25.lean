/-
  Compact at every stamp; what trees that nobody made answer.
-/
import Derived.Test.YteghkajegdcbjaaDoorT24
namespace Go.Proofs.YteghkajegdcbjaaDoor
open Go.RowKit
set_option maxRecDepth 100000
set_option maxHeartbeats 1000000

theorem compact_bad (w : World) (tb : Nat) (F : List Nat) (T : Tr) (t u : Int) (h : TreeAt w tb F T) (hm : (⟨t, u⟩ : St).may = false) :
    Calls Tryd.prog 14 #[.pointer (some ⟨tb, 0, none⟩), .agg #[.int .i64 t, .int .i64 u]] w (Ret (.int .i64 0) w) := by
  have hg := given_any (w.alloc (.cells #[.int .i64 t, .int .i64 u] 28)) tb F T (h.below ((Below.refl _ _).alloc (Nat.le_refl _) _) h.lt)
  have hf : ∀ W, Calls Tryd.prog 45 #[.agg #[.int .i64 t, .int .i64 u]] W (Ret (.bool false) W) := fun W => by
    have := fine_any t u W
    rw [show mayP t u = false from hm] at this
    exact this
  have HG := Lib.hid hg
  have HFI := Lib.hid hf
  clear hg hf hm h
  go_enter Tryd.func14, Tryd.ntmps14
  go_wp2_with (first
    | (go_at_call 35; refine HG.out.mono ?_; rintro e w1 ⟨rfl, rfl⟩)
    | (go_at_call 45; refine (HFI.out _).mono ?_; rintro e w1 ⟨rfl, hb⟩))
  go_ret
  exact ⟨rfl, below_up ((Below.refl _ _).alloc (Nat.le_refl _) _) hb (by simp)⟩
theorem compact_any (w : World) (tb : Nat) (F : List Nat) (T : Tr) (t u : Int) (h : TreeAt w tb F T) (hI : Inv T) :
    Calls Tryd.prog 14 #[.pointer (some ⟨tb, 0, none⟩), .agg #[.int .i64 t, .int .i64 u]] w (Compacted tb F T ⟨t, u⟩ w) := by
  cases hm : (⟨t, u⟩ : St).may
  · refine (compact_bad w tb F T t u h hm).mono ?_
    rintro e w' ⟨rfl, hb⟩
    have e1 : compactN T ⟨t, u⟩ = (T, 0) := by unfold compactN; rw [if_pos hm]
    exact ⟨by rw [e1]; rfl, by rw [e1]; exact h.below hb h.lt, Fr.of_below _ hb⟩
  · exact compact_in w tb F T t u h hI hm

theorem get_nil (w : World) (t u : Int) : Calls Tryd.prog 19 #[.pointer none, .agg #[.int .i64 t, .int .i64 u]] w (Ret (.tuple #[.agg #[.int .i64 0, .int .i64 0, .int .i64 0, .int .i64 0, .string ⟨#[]⟩, .string ⟨#[]⟩], .bool false]) w) := by
  have HG := Lib.hid given_nil
  go_enter Tryd.func19, Tryd.ntmps19
  go_wp2_with (go_at_call 35; refine (HG.out _).mono ?_; rintro e w1 ⟨rfl, rfl⟩)
  refine bodyPost_ret (v := .tuple #[.agg #[.int .i64 0, .int .i64 0, .int .i64 0, .int .i64 0, .string ⟨#[]⟩, .string ⟨#[]⟩], .bool false]) (by simp [results, Tryd.results19, go_sem]) rfl ⟨rfl, ((Below.refl _ _).alloc (Nat.le_refl _) _).alloc (by simp) _⟩
theorem ops_nil (w : World) : Calls Tryd.prog 18 #[.pointer none] w (Ret (.slice none 0 0) w) := by
  have HG := Lib.hid given_nil
  go_enter Tryd.func18, Tryd.ntmps18
  go_wp2_with (go_at_call 35; refine (HG.out _).mono ?_; rintro e w1 ⟨rfl, rfl⟩)
  go_ret
  exact ⟨rfl, Below.refl _ _⟩
theorem nodes_nil (w : World) : Calls Tryd.prog 17 #[.pointer none] w (Ret (.slice none 0 0) w) := by
  have HG := Lib.hid given_nil
  go_enter Tryd.func17, Tryd.ntmps17
  go_wp2_with (go_at_call 35; refine (HG.out _).mono ?_; rintro e w1 ⟨rfl, rfl⟩)
  go_ret
  exact ⟨rfl, Below.refl _ _⟩
theorem fixed_nil (w : World) : Calls Tryd.prog 20 #[.pointer none] w (Ret (.slice none 0 0) w) := by
  have HG := Lib.hid given_nil
  go_enter Tryd.func20, Tryd.ntmps20
  go_wp2_with (go_at_call 35; refine (HG.out _).mono ?_; rintro e w1 ⟨rfl, rfl⟩)
  go_ret
  exact ⟨rfl, Below.refl _ _⟩
theorem base_nil (w : World) : Calls Tryd.prog 21 #[.pointer none] w (Ret (.agg #[.int .i64 0, .int .i64 0]) w) := by
  have HG := Lib.hid given_nil
  go_enter Tryd.func21, Tryd.ntmps21
  go_wp2_with (go_at_call 35; refine (HG.out _).mono ?_; rintro e w1 ⟨rfl, rfl⟩)
  refine bodyPost_ret (v := .agg #[.int .i64 0, .int .i64 0]) (by simp [results, Tryd.results21, go_sem]) rfl ⟨rfl, (Below.refl _ _).alloc (Nat.le_refl _) _⟩
theorem get_empty (w : World) (tb : Nat) (p q r v : Value) (h : Blk w tb [.map none, p, q, r, v] 43) (t u : Int) : Calls Tryd.prog 19 #[.pointer (some ⟨tb, 0, none⟩), .agg #[.int .i64 t, .int .i64 u]] w (Ret (.tuple #[.agg #[.int .i64 0, .int .i64 0, .int .i64 0, .int .i64 0, .string ⟨#[]⟩, .string ⟨#[]⟩], .bool false]) w) := by
  have HG := Lib.hid (fun X Y => given_empty ((w.alloc X).alloc Y) tb p q r v ((h.alloc _).alloc _))
  clear h
  go_enter Tryd.func19, Tryd.ntmps19
  go_wp2_with (go_at_call 35; refine (HG.out _ _).mono ?_; rintro e w1 ⟨rfl, rfl⟩)
  refine bodyPost_ret (v := .tuple #[.agg #[.int .i64 0, .int .i64 0, .int .i64 0, .int .i64 0, .string ⟨#[]⟩, .string ⟨#[]⟩], .bool false]) (by simp [results, Tryd.results19, go_sem]) rfl ⟨rfl, ((Below.refl _ _).alloc (Nat.le_refl _) _).alloc (by simp) _⟩
theorem ops_empty (w : World) (tb : Nat) (p q r v : Value) (h : Blk w tb [.map none, p, q, r, v] 43) : Calls Tryd.prog 18 #[.pointer (some ⟨tb, 0, none⟩)] w (Ret (.slice none 0 0) w) := by
  have HG := Lib.hid (given_empty w tb p q r v h)
  clear h
  go_enter Tryd.func18, Tryd.ntmps18
  go_wp2_with (go_at_call 35; refine HG.out.mono ?_; rintro e w1 ⟨rfl, rfl⟩)
  go_ret
  exact ⟨rfl, Below.refl _ _⟩
theorem nodes_empty (w : World) (tb : Nat) (p q r v : Value) (h : Blk w tb [.map none, p, q, r, v] 43) : Calls Tryd.prog 17 #[.pointer (some ⟨tb, 0, none⟩)] w (Ret (.slice none 0 0) w) := by
  have HG := Lib.hid (given_empty w tb p q r v h)
  clear h
  go_enter Tryd.func17, Tryd.ntmps17
  go_wp2_with (go_at_call 35; refine HG.out.mono ?_; rintro e w1 ⟨rfl, rfl⟩)
  go_ret
  exact ⟨rfl, Below.refl _ _⟩
theorem fixed_empty (w : World) (tb : Nat) (p q r v : Value) (h : Blk w tb [.map none, p, q, r, v] 43) : Calls Tryd.prog 20 #[.pointer (some ⟨tb, 0, none⟩)] w (Ret (.slice none 0 0) w) := by
  have HG := Lib.hid (given_empty w tb p q r v h)
  clear h
  go_enter Tryd.func20, Tryd.ntmps20
  go_wp2_with (go_at_call 35; refine HG.out.mono ?_; rintro e w1 ⟨rfl, rfl⟩)
  go_ret
  exact ⟨rfl, Below.refl _ _⟩
theorem base_empty (w : World) (tb : Nat) (p q r v : Value) (h : Blk w tb [.map none, p, q, r, v] 43) : Calls Tryd.prog 21 #[.pointer (some ⟨tb, 0, none⟩)] w (Ret (.agg #[.int .i64 0, .int .i64 0]) w) := by
  have HG := Lib.hid (fun X => given_empty (w.alloc X) tb p q r v (h.alloc _))
  clear h
  go_enter Tryd.func21, Tryd.ntmps21
  go_wp2_with (go_at_call 35; refine (HG.out _).mono ?_; rintro e w1 ⟨rfl, rfl⟩)
  refine bodyPost_ret (v := .agg #[.int .i64 0, .int .i64 0]) (by simp [results, Tryd.results21, go_sem]) rfl ⟨rfl, (Below.refl _ _).alloc (Nat.le_refl _) _⟩
end Go.Proofs.YteghkajegdcbjaaDoor
