/-
  Maps over stamps in this program: a stamp is a good key.
-/
import Derived.Test.YteghkajegdcbjaaDoorT1
import Derived.Test.YteghkajegdcbjaaDoorP1
namespace Go.Proofs.YteghkajegdcbjaaDoor
open Go.RowKit

theorem und_st : Tryd.prog.underlying 28 = some (.struct #[⟨"Time", 3, 0, false, "", "", 0⟩, ⟨"Who", 3, 1, false, "", "", 8⟩]) := by kernel_rfl
theorem und_int : Tryd.prog.underlying 3 = some (.int .i64) := by kernel_rfl
theorem agg_int (w : World) : (isAgg 3).run Tryd.prog w = .ok false w := by simp [isAgg, run_underlying und_int]

theorem checkKey_int (w : World) (e : Bool) (n : Nat) (a : Int) : (Instr.checkKey e (n + 1) 3 (.int .i64 a)).run Tryd.prog w = .ok () w := by
  unfold Instr.checkKey
  simp [run_underlying und_int]
theorem check_st' (w : World) (e : Bool) (n : Nat) (s : St) : (Instr.checkKey e (n + 2) 28 s.v).run Tryd.prog w = .ok () w := by
  unfold Instr.checkKey
  simp [St.v, run_underlying und_st, part, agg_int, checkKey_int]
theorem find_st (w : World) (s : St) : ∀ (es : List MapEntry) (i : Nat), (∀ e ∈ es, ∃ x : St, e.key = x.v) →
    ((Instr.findAsking 28 s.v es i).run Tryd.prog w = .ok none w ∧ ∀ e ∈ es, e.key ≠ s.v) ∨ ∃ (j : Nat) (e : MapEntry), (Instr.findAsking 28 s.v es i).run Tryd.prog w = .ok (some (i + j, e.val)) w ∧ es[j]? = some e ∧ e.key = s.v
  | [], i, _ => Or.inl ⟨rfl, by simp⟩
  | e :: es, i, h => by
    obtain ⟨x, hx⟩ := h e (by simp)
    have he : (Op.equal 28 s.v e.key).run Tryd.prog w = .ok (s.t == x.t && (s.u == x.u)) w := by
      rw [hx]; exact eqSt 9998 w _ _ _ _
    by_cases hq : s = x
    · subst hq
      refine Or.inr ⟨0, e, ?_, rfl, hx⟩
      simp [Instr.findAsking, he]
    · have hn : (s.t == x.t && (s.u == x.u)) = false := by
        cases s; cases x; simp at hq ⊢; exact hq
      rcases find_st w s es (i + 1) (fun e he => h e (by simp [he])) with ⟨h1, h2⟩ | ⟨j, e', h1, h2, h3⟩
      · refine Or.inl ⟨by simp [Instr.findAsking, he, hn, h1], ?_⟩
        intro y hy
        rcases List.mem_cons.1 hy with rfl | hy
        · rw [hx]; intro h4; exact hq (St.v_inj _ _ h4).symm
        · exact h2 y hy
      · refine Or.inr ⟨j + 1, e', ?_, by simpa using h2, h3⟩
        simp [Instr.findAsking, he, hn, h1]
        omega

theorem keySt : KeyOK Tryd.prog 28 St.v where
  check w e s := check_st' w e 9998 s
  find w s es h := by
    cases es with
    | nil => exact Or.inl ⟨by simp [Instr.findKey, run_underlying und_st, Instr.findNow], by simp⟩
    | cons x es =>
      have hf : (Instr.findKey 28 s.v (x :: es)).run Tryd.prog w = (Instr.findAsking 28 s.v (x :: es) 0).run Tryd.prog w := by
        simp [Instr.findKey, run_underlying und_st, Instr.findNow, Instr.sameNow]
      rw [hf]
      simpa using find_st w s (x :: es) 0 h
  stays w s := by
    simp [Instr.keyThatStays, St.v, Instr.sameBits]
  inj := St.v_inj

theorem zero_node (w : World) : (zeroValue 46).run Tryd.prog w = .ok Nd.zero.v w := by kernel_rfl
theorem und_nodes : Tryd.prog.underlying 41 = some (.map 28 46) := by kernel_rfl

theorem field_par (W : World) (a b c d : Int) (n v : ByteArray) : (Instr.field 46 (.agg #[.int .i64 a, .int .i64 b, .int .i64 c, .int .i64 d, .string n, .string v]) 1).run Tryd.prog W = .ok (.agg #[.int .i64 c, .int .i64 d]) W := by kernel_rfl

/-- A map of nodes by their numbers. -/
abbrev NodesAt (w : World) (b : Nat) (m : List (St × Nd)) : Prop := MapAt St.v Nd.v w b m
theorem NodesAt.look {w : World} {b : Nat} {m : List (St × Nd)} (h : NodesAt w b m) (s : St) :
    (Instr.lookup 41 (.map (some b)) (.agg #[.int .i64 s.t, .int .i64 s.u]) true).run Tryd.prog w = .ok (.tuple #[(getNd m s).v, .bool (hasNd m s)]) w := by
  have := MapAt.lookup h keySt und_nodes (zero_node w) s true
  simp only [if_true] at this
  refine this.trans ?_
  simp only [getNd, hasNd]
  cases m.lookup s <;> rfl
theorem NodesAt.look1 {w : World} {b : Nat} {m : List (St × Nd)} (h : NodesAt w b m) (s : St) :
    (Instr.lookup 41 (.map (some b)) (.agg #[.int .i64 s.t, .int .i64 s.u]) false).run Tryd.prog w = .ok (getNd m s).v w := by
  have := MapAt.lookup h keySt und_nodes (zero_node w) s false
  simp only [Bool.false_eq_true, if_false] at this
  refine this.trans ?_
  simp only [getNd]
  cases m.lookup s <;> rfl
end Go.Proofs.YteghkajegdcbjaaDoor
