/-
  Base, full: what they answer of a tree.
-/
import Derived.Test.YteghkajegdcbjaaDoorT7
namespace Go.Proofs.YteghkajegdcbjaaDoor
open Go.RowKit
set_option maxRecDepth 100000
set_option maxHeartbeats 1000000

theorem flatO_get (l : List Opn) (i k : Nat) (hi : i < l.length) (hk : k < 9) : (flatO l)[i * 9 + k]? = (l[i]).cs[k]? := by
  induction l generalizing i with
  | nil => simp at hi
  | cons o l ih =>
    have e : flatO (o :: l) = o.cs ++ flatO l := rfl
    cases i with
    | zero =>
      rw [e, List.getElem?_append_left (by simp [Opn.cs]; omega)]
      simp
    | succ i =>
      rw [e, List.getElem?_append_right (by simp [Opn.cs]; omega)]
      have := ih i (by simpa using hi)
      simp only [Opn.cs, List.length_cons, List.length_nil, List.getElem_cons_succ] at this ⊢
      rw [← this]
      congr 1
      omega
theorem flatO_length (l : List Opn) : (flatO l).length = l.length * 9 := by
  induction l with
  | nil => rfl
  | cons o l ih =>
    have e : flatO (o :: l) = o.cs ++ flatO l := rfl
    rw [e, List.length_append, ih]
    simp [Opn.cs]
    omega
/-- The slice is nil, or a row. -/
theorem OpsAt.cases {w : World} {sv : Value} {l : List Opn} (h : OpsAt w sv l) : (sv = .slice none 0 0 ∧ l = []) ∨ ∃ g cap, sv = .slice (some ⟨g, 0, none⟩) l.length cap := by
  rcases h.2 with ⟨h1, h2⟩ | ⟨g, cap, cur, h1, _⟩
  · exact Or.inl ⟨h1, List.eq_nil_of_length_eq_zero h2⟩
  · exact Or.inr ⟨g, cap, h1⟩
theorem OpsAt.cell {w : World} {g cap : Nat} {l : List Opn} (h : OpsAt w (.slice (some ⟨g, 0, none⟩) l.length cap) l) (i k : Nat) (hi : i < l.length) (hk : k < 9) : w.cell? ⟨g, i * 9 + k, none⟩ = (l[i]).cs[k]? := by
  rw [World.ownsRow.cellAt h _ (by omega), flatO_get l i k hi hk]

theorem base_any (w : World) (tb : Nat) (F : List Nat) (T : Tr) (h : TreeAt w tb F T) : Calls Tryd.prog 21 #[.pointer (some ⟨tb, 0, none⟩)] w (Ret T.base.v w) := by
  have HT := Lib.hid h
  obtain ⟨bf, bn, sv, h1, h2, h3, h4, rfl, h5, h6⟩ := h
  have B1 := fun X => h1.alloc X
  have c3 := fun X => (B1 X).cell 3 rfl
  have c4 := fun X => (B1 X).cell 4 rfl
  have hg := fun X => given_any (w.alloc X) tb _ T (HT.out.of_blocks (fun k hk => Below.heap_alloc w X k (HT.out.lt k hk)))
  have HG := Lib.hid hg
  have hlt := h1.lt
  clear hg h1 h2 h3 h4 h5 h6 HT B1
  go_enter Tryd.func21, Tryd.ntmps21
  go_wp2_with (go_at_call 35; refine (HG.out _).mono ?_; rintro e w1 ⟨rfl, rfl⟩)
  refine bodyPost_ret (v := T.base.v) (by simp [results, Tryd.results21, go_sem, St.v]) rfl ⟨rfl, (Below.refl _ _).alloc (Nat.le_refl _) _⟩

def creates (l : List Opn) : Nat := (l.filter fun o => o.kind = 1).length
def fullP (T : Tr) (k : Int) : Bool := decide (512 ≤ T.ops.length) || (k == 1 && decide (512 ≤ T.fixed.length + creates T.ops))
theorem creates_take (l : List Opn) (k : Nat) (h : k < l.length) : creates (l.take (k + 1)) = creates (l.take k) + if l[k].kind = 1 then 1 else 0 := by
  unfold creates
  rw [List.take_succ_eq_append_getElem h, List.filter_append, List.length_append]
  by_cases hk : l[k].kind = 1 <;> simp [hk]
theorem creates_le (l : List Opn) : creates l ≤ l.length := List.length_filter_le _ _

theorem full_any (w : World) (tb : Nat) (F : List Nat) (T : Tr) (k at_ au nt nu pt pu : Int) (nm vl : ByteArray) (h : TreeAt w tb F T) (hs1 : T.fixed.length ≤ 512) (hs2 : T.ops.length ≤ 512) :
    Calls Tryd.prog 41 #[.pointer (some ⟨tb, 0, none⟩), .agg #[.int .i64 k, .int .i64 at_, .int .i64 au, .int .i64 nt, .int .i64 nu, .int .i64 pt, .int .i64 pu, .string nm, .string vl]] w (Ret (.bool (fullP T k)) w) := by
  obtain ⟨bf, bn, sv, h1, h2, h3, h4, rfl, h5, h6⟩ := h
  have c0 := fun X => (h1.alloc X).cell 0 rfl
  have hl := fun X => (h2.1.alloc X).len (P := Tryd.prog) und_nodes 3
  have c2 := fun X => (h1.alloc X).cell 2 rfl
  have hlen : (kvN T.fixed).length = T.fixed.length := by simp [kvN]
  rw [hlen] at hl
  clear hlen
  have hc := creates_le
  have H1 := Lib.hid h1
  have H4 := Lib.hid h4
  have hlt1 := h1.lt
  have hcs := h4.cases
  have hlg : ∀ g, sv.ownBlock = some g → g < w.heap.size := fun g hg => h4.lt hg
  have HC := Lib.hid hc
  clear h1 h2 h3 h4 h5 h6 hc
  have hB0 : Below w.heap.size w (w.alloc (.cells #[.int .i64 k, .int .i64 at_, .int .i64 au, .int .i64 nt, .int .i64 nu, .int .i64 pt, .int .i64 pu, .string nm, .string vl] 30)) := (Below.refl _ _).alloc (Nat.le_refl _) _
  have hN0 : Blk (w.alloc (.cells #[.int .i64 k, .int .i64 at_, .int .i64 au, .int .i64 nt, .int .i64 nu, .int .i64 pt, .int .i64 pu, .string nm, .string vl] 30)) w.heap.size [.int .i64 k, .int .i64 at_, .int .i64 au, .int .i64 nt, .int .i64 nu, .int .i64 pt, .int .i64 pu, .string nm, .string vl] 30 := Blk.at_ _ [.int .i64 k, .int .i64 at_, .int .i64 au, .int .i64 nt, .int .i64 nu, .int .i64 pt, .int .i64 pu, .string nm, .string vl] _ rfl
  rcases hcs with ⟨rfl, hn⟩ | ⟨g, cap, rfl⟩
  · have HF : Hid (fullP T k = (k == 1 && decide (512 ≤ T.fixed.length))) := by simp only [Hid, fullP, hn, creates]; simp; cases k == 1 <;> first | rfl | simp
    clear hn hlg
    go_enter Tryd.func41, Tryd.ntmps41
    go_wp2
    refine wp_loop_rounds 1 ?_
    rw [rounds_succ]
    cases hk : (k == 1)
    all_goals
      have HK := Lib.hid hk
      go_wp2
      all_goals
        go_ret
        refine ⟨ret_bool ?_, hB0⟩
        have h1 := HF.out
        rw [HK.out] at h1
        simp [h1]
        try omega
  · go_enter Tryd.func41, Tryd.ntmps41
    go_wp2
    go_loopw [5, 18] (fun n i wr => ∃ j : Nat, j ≤ T.ops.length ∧ i = .int .i64 j ∧ n = .int .i64 ((T.fixed.length + creates (T.ops.take j) : Nat) : Int) ∧ Below w.heap.size w wr ∧ Blk wr w.heap.size [.int .i64 k, .int .i64 at_, .int .i64 au, .int .i64 nt, .int .i64 nu, .int .i64 pt, .int .i64 pu, .string nm, .string vl] 30) (fun _ i _ => T.ops.length - (intOf i).toNat)
    case atStart => exact ⟨0, Nat.zero_le _, rfl, rfl, hB0, hN0⟩
    case round =>
      obtain ⟨j, hj, rfl, rfl, hB, hN⟩ := hrel
      clear hB0 hN0
      have hcj : creates (T.ops.take j) ≤ 512 := Nat.le_trans (HC.out _) (by simp; omega)
      by_cases hlt : j < T.ops.length
      · have h4' := H4.out.of_block (w' := wr) (fun g' hg' => hB.block _ (hlg g' hg'))
        have e0 := h4'.cell j 0 hlt (by omega)
        have e1 := h4'.cell j 1 hlt (by omega)
        have e2 := h4'.cell j 2 hlt (by omega)
        have e3 := h4'.cell j 3 hlt (by omega)
        have e4 := h4'.cell j 4 hlt (by omega)
        have e5 := h4'.cell j 5 hlt (by omega)
        have e6 := h4'.cell j 6 hlt (by omega)
        have e7 := h4'.cell j 7 hlt (by omega)
        have e8 := h4'.cell j 8 hlt (by omega)
        have hct := creates_take T.ops j hlt
        obtain ⟨x, hx⟩ : ∃ x, x = T.ops[j] := ⟨_, rfl⟩
        rw [← hx] at e0 e1 e2 e3 e4 e5 e6 e7 e8 hct
        simp only [Opn.cs, Nat.add_zero, List.getElem?_cons_zero, List.getElem?_cons_succ] at e0 e1 e2 e3 e4 e5 e6 e7 e8
        obtain ⟨xk, ⟨xa, xb⟩, ⟨xc, xd⟩, ⟨xe, xf⟩, xn, xv⟩ := x
        have HX := Lib.hid hct
        clear hx h4' hct
        by_cases hk1 : xk = 1
        · subst hk1
          go_wp2
          go_roundw
          case rel => exact ⟨j + 1, by omega, by go_num, by rw [HX.out]; simp; rfl, hB.alloc (by have := hB.size; omega) _, hN.alloc _⟩
          case measure => simp [intOf]; omega
        · have hk1' : (xk == 1) = false := by simpa using hk1
          have HK := Lib.hid hk1
          clear hk1
          go_wp2
          go_roundw
          case rel => exact ⟨j + 1, by omega, by go_num, by rw [HX.out, if_neg HK.out]; simp, hB.alloc (by have := hB.size; omega) _, hN.alloc _⟩
          case measure => simp [intOf]; omega
      · obtain rfl : j = T.ops.length := by omega
        rw [List.take_length]
        have n0 := hN.cell 0 rfl
        have c2' := (H1.out.below (w' := wr) hB hlt1).cell 2 rfl
        have HBB := Lib.hid hB
        cases hk : (k == 1)
        all_goals
          have HK := Lib.hid hk
          go_wp2
          all_goals
            go_ret
            refine ⟨ret_bool (Bool.eq_iff_iff.2 ?_), hB⟩
            have h1 := HK.out
            simp [fullP, h1]
            try omega
end Go.Proofs.YteghkajegdcbjaaDoor
