/-
  Small functions over stamps: clock.Less, clock.may, clock.Check, tree.outer, tree.fine, tree.order, the laws' at, the references' Less and May: what each returns; memory that was there is as it was.
-/
import Derived.Test.YteghkajegdcbjaaDoorChecked
import Derived.Test.YteghkajegdcbjaaDoorP1
import Derived.WalkKit
import Derived.KernelRfl
import Derived.Lib.Hide
namespace Go.Proofs.YteghkajegdcbjaaDoor
open Go.RowKit

def Ret (v : Value) (w : World) (e : Ending) (w' : World) : Prop := e = .returned v ∧ Below w.heap.size w w'

theorem bcell {W w1 : World} (hb : Below W.heap.size W w1) : (∀ b o, b < W.heap.size → w1.cell? ⟨b, o, none⟩ = W.cell? ⟨b, o, none⟩) ∧ (∀ b o, b < W.heap.size → w1.frozen? ⟨b, o, none⟩ = W.frozen? ⟨b, o, none⟩) :=
  ⟨fun b o h => hb.cell (p := ⟨b, o, none⟩) h, fun b o h => hb.frozen (p := ⟨b, o, none⟩) h⟩

theorem ret_bool {a b : Bool} (h : a = b) : Ending.returned (.bool a) = .returned (.bool b) := by rw [h]
theorem ret_int {k : IntKind} {a b : Int} (h : a = b) : Ending.returned (.int k a) = .returned (.int k b) := by rw [h]

theorem eqSt (d : Nat) (w : World) (x0 y0 x1 y1 : Int) :
    (Op.equalIn (d + 2) 28 (.agg #[.int .i64 x0, .int .i64 x1]) (.agg #[.int .i64 y0, .int .i64 y1])).run Tryd.prog w = .ok (x0 == y0 && (x1 == y1)) w := by
  rw [run_equalIn_struct w (d + 1) 28 _ _ (by kernel_rfl) (by kernel_rfl)]
  go_simp
  by_cases h : x0 = y0 <;> by_cases h' : x1 = y1 <;> simp [h, h']

set_option maxHeartbeats 400000 in
theorem less_any (t u t' u' : Int) (w : World) :
    Calls Tryd.prog 37 #[.agg #[.int .i64 t, .int .i64 u], .agg #[.int .i64 t', .int .i64 u']] w (Ret (.bool (lessP t u t' u')) w) := by
  by_cases h : t = t'
  · subst h
    go_enter Tryd.func37, Tryd.ntmps37
    go_wp2
    go_ret
    exact ⟨by simp [lessP], ((Below.refl _ _).alloc (Nat.le_refl _) _).alloc (by simp) _⟩
  · have h2 : (t == t') = false := by simpa using h
    go_enter Tryd.func37, Tryd.ntmps37
    go_wp2
    go_ret
    exact ⟨by simp [lessP, h], ((Below.refl _ _).alloc (Nat.le_refl _) _).alloc (by simp) _⟩

set_option maxHeartbeats 400000 in
theorem rless_any (t u t' u' : Int) (w : World) :
    Calls Tryd.prog 82 #[.agg #[.int .i64 t, .int .i64 u], .agg #[.int .i64 t', .int .i64 u']] w (Ret (.bool (lessP t u t' u')) w) := by
  go_enter Tryd.func82, Tryd.ntmps82
  go_wp2
  all_goals
    go_ret
    refine ⟨ret_bool ?_, ((Below.refl _ _).alloc (Nat.le_refl _) _).alloc (by simp) _⟩
    unfold lessP
    first | (simp; omega) | (split <;> simp_all <;> omega)

set_option maxHeartbeats 400000 in
theorem outer_any (t u : Int) (w : World) : Calls Tryd.prog 50 #[.agg #[.int .i64 t, .int .i64 u]] w (Ret (.bool (outerP t u)) w) := by
  have e1 := fun (w : World) => eqSt 9998 w t 0 u 0
  have e2 := fun (w : World) => eqSt 9998 w t 0 u 1
  go_enter Tryd.func50, Tryd.ntmps50
  go_wp2
  all_goals
    go_ret
    refine ⟨ret_bool ?_, (Below.refl _ _).alloc (Nat.le_refl _) _⟩
    rw [Bool.eq_iff_iff]
    simp [outerP]
    try omega

set_option maxHeartbeats 400000 in
theorem may_any (t u : Int) (w : World) : Calls Tryd.prog 99 #[.agg #[.int .i64 t, .int .i64 u]] w (Ret (.bool (mayP t u)) w) := by
  go_enter Tryd.func99, Tryd.ntmps99
  go_wp2
  all_goals
    go_ret
    refine ⟨ret_bool ?_, (Below.refl _ _).alloc (Nat.le_refl _) _⟩
    rw [Bool.eq_iff_iff]
    simp [mayP]
    try omega

set_option maxHeartbeats 400000 in
theorem rmay_any (t u : Int) (w : World) : Calls Tryd.prog 51 #[.agg #[.int .i64 t, .int .i64 u]] w (Ret (.bool (mayP t u)) w) := by
  go_enter Tryd.func51, Tryd.ntmps51
  go_wp2
  all_goals
    go_ret
    refine ⟨ret_bool ?_, (Below.refl _ _).alloc (Nat.le_refl _) _⟩
    rw [Bool.eq_iff_iff]
    simp [mayP]
    try omega

set_option maxHeartbeats 400000 in
theorem ccheck_any (t u : Int) (w : World) : Calls Tryd.prog 67 #[.agg #[.int .i64 t, .int .i64 u]] w (Ret (.int .i64 (if mayP t u then 0 else 1)) w) := by
  cases hm : mayP t u
  all_goals
    have hc : ∀ w, Calls Tryd.prog 99 #[.agg #[.int .i64 t, .int .i64 u]] w (Ret (.bool (mayP t u)) w) := may_any t u
    rw [hm] at hc
    have HC := Lib.hid hc
    clear hc
    clear hm
    go_enter Tryd.func67, Tryd.ntmps67
    go_wp2_with (go_at_call 99; refine (HC.out _).mono ?_; rintro e w' ⟨rfl, hb⟩)
    go_ret
    exact ⟨rfl, ((Below.refl _ _).alloc (Nat.le_refl _) _).trans (hb.mono (by simp))⟩

set_option maxHeartbeats 400000 in
theorem fine_any (t u : Int) (w : World) : Calls Tryd.prog 45 #[.agg #[.int .i64 t, .int .i64 u]] w (Ret (.bool (mayP t u)) w) := by
  go_enter Tryd.func45, Tryd.ntmps45
  go_wp2_with (go_at_call 67; refine (ccheck_any _ _ _).mono ?_; rintro e w' ⟨rfl, hb⟩)
  all_goals
    go_ret
    exact ⟨ret_bool (by simp_all), ((Below.refl _ _).alloc (Nat.le_refl _) _).trans (hb.mono (by simp))⟩

set_option maxHeartbeats 400000 in
theorem order_any (t u t' u' : Int) (w : World) :
    Calls Tryd.prog 40 #[.agg #[.int .i64 t, .int .i64 u], .agg #[.int .i64 t', .int .i64 u']] w (Ret (.int .i64 (orderP t u t' u')) w) := by
  have e1 := fun (w : World) => eqSt 9998 w t t' u u'
  have HL := Lib.hid (less_any t u t' u')
  cases hl : lessP t u t' u'
  all_goals
    have HO : Hid (lessP t u t' u' = _) := hl
    rw [hl] at HL
    clear hl
    go_enter Tryd.func40, Tryd.ntmps40
    go_wp2_with (go_at_call 37; refine (HL.out _).mono ?_; rintro e w' ⟨rfl, hb⟩; obtain ⟨hc, hf⟩ := bcell hb)
    all_goals
      go_ret
      refine ⟨ret_int ?_, (((Below.refl _ _).alloc (Nat.le_refl _) _).alloc (by simp) _).trans (hb.mono (by simp; omega))⟩
      have ho := HO.out
      simp [orderP, ho] <;> (rename_i hx; simp at hx; omega)

set_option maxHeartbeats 400000 in
theorem at11_any (t u : Int) (w : World) : Calls Tryd.prog 15 #[.int .i64 t, .int .i64 u] w (Ret (.agg #[.int .i64 t, .int .i64 u]) w) := by
  go_enter Tryd.func15, Tryd.ntmps15
  go_wp2
  refine bodyPost_ret (v := .agg #[.int .i64 t, .int .i64 u]) (by simp [results, Tryd.results15, go_sem]) rfl ⟨rfl, (Below.refl _ _).alloc (Nat.le_refl _) _⟩
end Go.Proofs.YteghkajegdcbjaaDoor
