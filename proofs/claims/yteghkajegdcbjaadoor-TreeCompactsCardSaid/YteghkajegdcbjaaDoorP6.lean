/-
  Plain data: what is made so for good behind some operations does not matter to those that stand behind.
-/
import Derived.Test.YteghkajegdcbjaaDoorP4
namespace Go.Proofs.YteghkajegdcbjaaDoor
open Go.RowKit

/-- Two trees: the second one has made the first ones of the first one's operations so for good. -/
structure Beh (A B : Tr) (P Q : List Opn) : Prop where
  ops : A.ops = P ++ Q
  opsB : B.ops = Q
  fixA : A.fixed = []
  fixB : B.fixed = foldN [] P
  old : ∀ x ∈ P, x.at_.t ≤ 1000
  baseA : A.base.t ≤ 1000
  baseB : B.base.t ≤ 1000

theorem lt_time {a b : St} (h : a.t < b.t) : a.lt b = true := by
  simp only [St.lt, lessP]
  rw [if_neg (by omega)]
  simpa using h
theorem Beh.now {A B : Tr} {P Q : List Opn} (h : Beh A B P Q) (hA : Inv A) (hB : Inv B) : A.now = B.now := by
  rw [hA.now, hB.now, h.ops, h.opsB, h.fixA, h.fixB, foldN_app]
theorem Beh.len {A B : Tr} {P Q : List Opn} (h : Beh A B P Q) : B.ops.length ≤ A.ops.length := by
  rw [h.ops, h.opsB]; simp
theorem there_app {P Q : List Opn} {s : St} (h : ∀ x ∈ P, x.at_ ≠ s) : thereO (P ++ Q) s = thereO Q s := by
  unfold thereO
  apply decide_eq_decide.2
  simp only [List.map_append, List.mem_append]
  constructor
  · rintro (h1 | h1)
    · obtain ⟨x, hx, e⟩ := List.mem_map.1 h1
      exact absurd e (h x hx)
    · exact h1
  · exact Or.inr
theorem ins_app {P Q : List Opn} {o : Opn} (h : ∀ x ∈ P, x.at_.lt o.at_ = true) : insO (P ++ Q) o = P ++ insO Q o := by
  unfold insO
  rw [List.takeWhile_append_of_pos h, List.dropWhile_append_of_pos h, List.append_assoc]
theorem not_full {T : Tr} {k : Int} (h : T.ops.length < 512) (h2 : T.fixed.length + creates T.ops < 512) : fullP T k = false := by
  simp [fullP]
  omega
theorem beh_step {A B : Tr} {P Q : List Opn} (h : Beh A B P Q) (o : Opn) (ht : 1000 < o.at_.t) (hn : A.ops.length < 512) :
    (applyN A o).2 = (applyN B o).2 ∧ ∃ Q', Beh (applyN A o).1 (applyN B o).1 P Q' := by
  have hfA : fullP A o.kind = false := not_full hn (by have := creates_le A.ops; rw [h.fixA]; simp; omega)
  have hfB : fullP B o.kind = false := by
    have h1 := h.len
    have h2 := foldN_len wf_nil P
    have h3 := creates_le A.ops
    have h4 := creates_app P Q
    rw [h.ops] at h3
    refine not_full (by omega) ?_
    rw [h.fixB, h.opsB]
    have h5 : A.ops.length = (P ++ Q).length := by rw [h.ops]
    simp only [List.length_nil, Nat.zero_add] at h2
    omega
  have hbA : A.base.lt o.at_ = true := lt_time (by have := h.baseA; omega)
  have hbB : B.base.lt o.at_ = true := lt_time (by have := h.baseB; omega)
  have hth : thereO A.ops o.at_ = thereO B.ops o.at_ := by
    rw [h.ops, h.opsB]
    exact there_app (fun x hx e => by have := h.old x hx; rw [e] at this; omega)
  have hin : insO A.ops o = P ++ insO Q o := by
    rw [h.ops]
    exact ins_app (fun x hx => lt_time (by have := h.old x hx; omega))
  by_cases h1 : okOp o = false
  · have eA : applyN A o = (A, 1) := by unfold applyN; rw [if_pos (Or.inl h1)]
    have eB : applyN B o = (B, 1) := by unfold applyN; rw [if_pos (Or.inl h1)]
    rw [eA, eB]
    exact ⟨rfl, Q, h⟩
  · by_cases h2 : thereO B.ops o.at_ = true
    · have eA : applyN A o = (A, 0) := by unfold applyN; rw [if_neg (by simp [h1, hbA]), if_pos (hth.trans h2)]
      have eB : applyN B o = (B, 0) := by unfold applyN; rw [if_neg (by simp [h1, hbB]), if_pos h2]
      rw [eA, eB]
      exact ⟨rfl, Q, h⟩
    · have eA : applyN A o = ({ A with now := foldN A.fixed (insO A.ops o), ops := insO A.ops o }, 0) := by unfold applyN; rw [if_neg (by simp [h1, hbA]), if_neg (by rw [hth]; exact h2), if_neg (by simp [hfA])]
      have eB : applyN B o = ({ B with now := foldN B.fixed (insO B.ops o), ops := insO B.ops o }, 0) := by unfold applyN; rw [if_neg (by simp [h1, hbB]), if_neg h2, if_neg (by simp [hfB])]
      rw [eA, eB]
      exact ⟨rfl, insO Q o, hin, by rw [h.opsB], h.fixA, h.fixB, h.old, h.baseA, h.baseB⟩
theorem apply_len (T : Tr) (o : Opn) : (applyN T o).1.ops.length ≤ T.ops.length + 1 := by
  unfold applyN
  repeat' split
  all_goals simp [insO_len]
theorem apply_fixed (T : Tr) (o : Opn) : (applyN T o).1.fixed = T.fixed := by
  unfold applyN
  repeat' split
  all_goals rfl
theorem apply_base (T : Tr) (o : Opn) : (applyN T o).1.base = T.base := by
  unfold applyN
  repeat' split
  all_goals rfl
theorem beh_begin {T : Tr} (hf : T.fixed = []) (hb : T.base.t ≤ 1000) (s : St) (hs : s.t ≤ 1000) (hm : s.may = true) :
    ∃ P Q, Beh T (compactN T s).1 P Q := by
  unfold compactN
  rw [if_neg (by simp [hm])]
  refine ⟨T.ops.take (uptoN T.ops s), T.ops.drop (uptoN T.ops s), (List.take_append_drop _ _).symm, rfl, hf, by rw [hf], ?_, hb, ?_⟩
  · intro x hx
    have h1 : T.ops.take (uptoN T.ops s) = T.ops.takeWhile (fun x => !s.lt x.at_) := by
      unfold uptoN
      exact (List.prefix_iff_eq_take.1 (List.takeWhile_prefix _)).symm
    rw [h1] at hx
    have h2 := List.all_eq_true.1 (List.all_takeWhile (l := T.ops) (p := fun x => !s.lt x.at_)) x hx
    by_cases h3 : s.t < x.at_.t
    · rw [lt_time h3] at h2; simp at h2
    · omega
  · simp only
    split
    · exact hs
    · exact hb
end Go.Proofs.YteghkajegdcbjaaDoor
