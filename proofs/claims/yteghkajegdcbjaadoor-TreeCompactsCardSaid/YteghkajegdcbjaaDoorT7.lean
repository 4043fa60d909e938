/-
  A tree in memory; given, New, Base: what they answer.
-/
import Derived.Test.YteghkajegdcbjaaDoorT6
import Derived.WalkSpells
namespace Go.Proofs.YteghkajegdcbjaaDoor
open Go.RowKit
set_option maxRecDepth 100000
set_option maxHeartbeats 1000000

/-- A tree as plain data. -/
structure Tr where
  fixed : List Nd
  now : List Nd
  ops : List Opn
  base : St

def flatO (l : List Opn) : List Value := l.flatMap Opn.cs
def flatN (l : List Nd) : List Value := l.flatMap Nd.cs
/-- A slice that owns these operations. -/
def OpsAt (w : World) (sv : Value) (l : List Opn) : Prop := w.ownsRow 0 30 9 sv l.length (flatO l)
/-- Block tb is a tree; F are all its blocks. -/
def TreeAt (w : World) (tb : Nat) (F : List Nat) (T : Tr) : Prop :=
  ∃ bf bn sv, Blk w tb [.map (some bf), .map (some bn), sv, .int .i64 T.base.t, .int .i64 T.base.u] 43 ∧ NodesL w bf T.fixed ∧ NodesL w bn T.now ∧ OpsAt w sv T.ops ∧
    F = [tb, bf, bn] ++ sv.ownBlock.toList ∧ bf ≠ bn ∧ sv.ownBlock ≠ some tb

theorem NodesL.of_block {w w' : World} {b : Nat} {l : List Nd} (h : NodesL w b l) (hb : w'.heap[b]? = w.heap[b]?) : NodesL w' b l := ⟨MapAt.of_block h.1 hb, h.2⟩
theorem ownsRow_of_block {w w' : World} {base : Nat} {e : TypeId} {size : Nat} {v : Value} {n : Nat} {xs : List Value} (h : w.ownsRow base e size v n xs) (hb : ∀ g, v.ownBlock = some g → w'.heap[g]? = w.heap[g]?) : w'.ownsRow base e size v n xs := by
  refine ⟨h.1, ?_⟩
  rcases h.2 with hn | ⟨g, cap, cur, rfl, hbb, hg, rest⟩
  · exact .inl hn
  · exact .inr ⟨g, cap, cur, rfl, hbb, (hb g rfl).trans hg, rest⟩
theorem OpsAt.of_block {w w' : World} {sv : Value} {l : List Opn} (h : OpsAt w sv l) (hb : ∀ g, sv.ownBlock = some g → w'.heap[g]? = w.heap[g]?) : OpsAt w' sv l := ownsRow_of_block h hb
theorem OpsAt.lt {w : World} {sv : Value} {l : List Opn} (h : OpsAt w sv l) {g : Nat} (hg : sv.ownBlock = some g) : g < w.heap.size := (World.ownsRow.lt h g hg).2
/-- A tree stands where its blocks are as they were. -/
theorem TreeAt.of_blocks {w w' : World} {tb : Nat} {F : List Nat} {T : Tr} (h : TreeAt w tb F T) (hb : ∀ k ∈ F, w'.heap[k]? = w.heap[k]?) : TreeAt w' tb F T := by
  obtain ⟨bf, bn, sv, h1, h2, h3, h4, rfl, h5, h6⟩ := h
  exact ⟨bf, bn, sv, h1.of_block (hb _ (by simp)), h2.of_block (hb _ (by simp)), h3.of_block (hb _ (by simp)), h4.of_block (fun g hg => hb g (by simp [hg])), rfl, h5, h6⟩
theorem TreeAt.lt {w : World} {tb : Nat} {F : List Nat} {T : Tr} (h : TreeAt w tb F T) : ∀ k ∈ F, k < w.heap.size := by
  obtain ⟨bf, bn, sv, h1, h2, h3, h4, rfl, h5, h6⟩ := h
  intro k hk
  simp only [List.cons_append, List.nil_append, List.mem_cons, Option.mem_toList] at hk
  rcases hk with rfl | rfl | rfl | hk
  · exact h1.lt
  · exact h2.1.lt
  · exact h3.1.lt
  · exact h4.lt hk
theorem TreeAt.mem {w : World} {tb : Nat} {F : List Nat} {T : Tr} (h : TreeAt w tb F T) : tb ∈ F := by
  obtain ⟨bf, bn, sv, h1, h2, h3, h4, rfl, h5, h6⟩ := h
  simp
theorem TreeAt.fr {w w' : World} {tb : Nat} {F : List Nat} {T : Tr} {S : List Nat} (h : TreeAt w tb F T) (f : Fr S w w') (hd : ∀ k ∈ F, k ∉ S) : TreeAt w' tb F T :=
  h.of_blocks (fun k hk => f.block k (h.lt k hk) (hd k hk))
theorem TreeAt.below {w w' : World} {tb : Nat} {F : List Nat} {T : Tr} {B : Nat} (h : TreeAt w tb F T) (f : Below B w w') (hB : ∀ k ∈ F, k < B) : TreeAt w' tb F T :=
  h.of_blocks (fun k hk => f.block k (hB k hk))

/-- 'given' of what is no tree. -/
theorem given_nil (w : World) : Calls Tryd.prog 35 #[.pointer none] w fun e w' => e = .returned (.bool false) ∧ w = w' := by
  go_enter Tryd.func35, Tryd.ntmps35
  go_wp2
  go_ret
  exact ⟨rfl, rfl⟩
theorem given_empty (w : World) (tb : Nat) (x y z u : Value) (h : Blk w tb [.map none, x, y, z, u] 43) : Calls Tryd.prog 35 #[.pointer (some ⟨tb, 0, none⟩)] w fun e w' => e = .returned (.bool false) ∧ w = w' := by
  have c0 := h.cell 0 rfl
  have q := fun (w : World) => run_neq_map_nil (P := Tryd.prog) w 41 _ _ none und_nodes
  go_enter Tryd.func35, Tryd.ntmps35
  go_wp2
  go_ret
  exact ⟨rfl, rfl⟩
theorem given_any (w : World) (tb : Nat) (F : List Nat) (T : Tr) (h : TreeAt w tb F T) : Calls Tryd.prog 35 #[.pointer (some ⟨tb, 0, none⟩)] w fun e w' => e = .returned (.bool true) ∧ w = w' := by
  obtain ⟨bf, bn, sv, h1, h2, h3, h4, rfl, h5, h6⟩ := h
  have c0 := h1.cell 0 rfl
  have q := fun (w : World) => run_neq_map_nil (P := Tryd.prog) w 41 _ _ (some bf) und_nodes
  clear h2 h3 h4 h5 h6
  go_enter Tryd.func35, Tryd.ntmps35
  go_wp2
  go_ret
  exact ⟨rfl, rfl⟩

def Tr.new : Tr := ⟨[], [], [], ⟨0, 0⟩⟩
def Made (w : World) (e : Ending) (w' : World) : Prop := ∃ tb F, e = .returned (.pointer (some ⟨tb, 0, none⟩)) ∧ TreeAt w' tb F Tr.new ∧ (∀ k ∈ F, w.heap.size ≤ k) ∧ Fr [] w w'
theorem new_any (w : World) : Calls Tryd.prog 10 #[] w (Made w) := by
  have hmm := @run_makeMap Tryd.prog
  go_enter Tryd.func10, Tryd.ntmps10
  go_wp2
  go_ret
  refine ⟨w.heap.size + 2, [w.heap.size + 2, w.heap.size, w.heap.size + 1], rfl, ⟨w.heap.size, w.heap.size + 1, .slice none 0 0, ?_, ⟨?_, ?_⟩, ⟨?_, ?_⟩, ?_, ?_, by omega, by simp [Value.ownBlock]⟩, ?_, ?_⟩
  · exact Blk.at_ _ [.map (some w.heap.size), .map (some (w.heap.size + 1)), .slice none 0 0, .int .i64 0, .int .i64 0] _ (by simp)
  · exact ((MapAt.made w _ _).alloc _).alloc _
  · exact List.Pairwise.nil
  · have := MapAt.made (w.alloc (.map #[] 0)) St.v Nd.v
    simp only [World.size_alloc] at this
    exact this.alloc _
  · exact List.Pairwise.nil
  · exact World.ownsRow_nil _ _ _ _
  · simp [Value.ownBlock]
  · simp
  · exact (((Fr.refl _ w).alloc _).alloc _).alloc _
end Go.Proofs.YteghkajegdcbjaaDoor
