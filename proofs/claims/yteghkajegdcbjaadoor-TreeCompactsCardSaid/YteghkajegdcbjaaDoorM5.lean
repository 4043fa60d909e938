/-
  Arguments read: stamps, nodes, operations; slices of them.
-/
import Derived.Test.YteghkajegdcbjaaDoorT1
import Derived.Deep.Slices
import Derived.Deep.Fields
import Derived.ChangeSame
import Derived.OpenShut
namespace Go.Proofs.YteghkajegdcbjaaDoor
open Go.ChangeShapes Go.WideShapes Go.Deep Go.RowKit
set_option maxRecDepth 100000

theorem cells_int : Tryd.prog.cellsOf 3 = 1 := by kernel_rfl
theorem cells_str : Tryd.prog.cellsOf 9 = 1 := by kernel_rfl
theorem cells_st : Tryd.prog.cellsOf 28 = 2 := by kernel_rfl
theorem cells_op : Tryd.prog.cellsOf 30 = 9 := by kernel_rfl
theorem cells_nd : Tryd.prog.cellsOf 46 = 6 := by kernel_rfl
section
variable {H : Type} {enc : TypeId × Value → H} {w : World} {base : Nat} {spare : Nat → Bool} {held : Bool}

theorem getsome {α : Type} {l : List α} {n i : Nat} (h : l.length = n) (hi : i < n) : ∃ y, l[i]? = some y := ⟨_, List.getElem?_eq_getElem (by omega)⟩
theorem read_st {n : Nat} {cs : List Value} {x : DataW H × List MemPlace} (h : DataW.trod enc Tryd.prog w base spare held n 28 cs = some x) : ∃ s : St, cs = s.cs ∧ (Lit.int .i64 s.t).wf = true ∧ (Lit.int .i64 s.u).wf = true := by
  obtain ⟨ys, n', _, _, hl, hyl, hf⟩ := DataW.trod_struct Tryd.underlying28 h
  rw [cells_st] at hl
  match cs, hl with
  | [c0, c1], _ =>
    obtain ⟨y0, e0⟩ := getsome (i := 0) hyl (by decide)
    obtain ⟨y1, e1⟩ := getsome (i := 1) hyl (by decide)
    have h0 : DataW.trod enc Tryd.prog w base spare held n' 3 (([c0, c1].drop 0).take (Tryd.prog.cellsOf 3)) = some y0 := (hf 0 _ rfl).trans e0
    have h1 : DataW.trod enc Tryd.prog w base spare held n' 3 (([c0, c1].drop 1).take (Tryd.prog.cellsOf 3)) = some y1 := (hf 1 _ rfl).trans e1
    simp only [cells_int] at h0 h1
    obtain ⟨t, q0, _, w0⟩ := DataW.trod_int Tryd.underlying3 h0
    obtain ⟨u, q1, _, w1⟩ := DataW.trod_int Tryd.underlying3 h1
    simp only [List.drop_succ_cons, List.drop_zero, List.take_succ_cons, List.take_zero, List.cons.injEq, and_true] at q0 q1
    subst q0 q1
    exact ⟨⟨t, u⟩, rfl, w0, w1⟩
theorem read_op {n : Nat} {cs : List Value} {x : DataW H × List MemPlace} (h : DataW.trod enc Tryd.prog w base spare held n 30 cs = some x) : ∃ o : Opn, cs = o.cs ∧ o.nm.size ≤ maxLen ∧ o.vl.size ≤ maxLen := by
  obtain ⟨ys, n', _, _, hl, hyl, hf⟩ := DataW.trod_struct Tryd.underlying30 h
  rw [cells_op] at hl
  match cs, hl with
  | [c0, c1, c2, c3, c4, c5, c6, c7, c8], _ =>
    obtain ⟨y0, e0⟩ := getsome (i := 0) hyl (by decide)
    obtain ⟨y1, e1⟩ := getsome (i := 1) hyl (by decide)
    obtain ⟨y2, e2⟩ := getsome (i := 2) hyl (by decide)
    obtain ⟨y3, e3⟩ := getsome (i := 3) hyl (by decide)
    obtain ⟨y4, e4⟩ := getsome (i := 4) hyl (by decide)
    obtain ⟨y5, e5⟩ := getsome (i := 5) hyl (by decide)
    have h0 : DataW.trod enc Tryd.prog w base spare held n' 3 (([c0, c1, c2, c3, c4, c5, c6, c7, c8].drop 0).take (Tryd.prog.cellsOf 3)) = some y0 := (hf 0 _ rfl).trans e0
    have h1 : DataW.trod enc Tryd.prog w base spare held n' 28 (([c0, c1, c2, c3, c4, c5, c6, c7, c8].drop 1).take (Tryd.prog.cellsOf 28)) = some y1 := (hf 1 _ rfl).trans e1
    have h2 : DataW.trod enc Tryd.prog w base spare held n' 28 (([c0, c1, c2, c3, c4, c5, c6, c7, c8].drop 3).take (Tryd.prog.cellsOf 28)) = some y2 := (hf 2 _ rfl).trans e2
    have h3 : DataW.trod enc Tryd.prog w base spare held n' 28 (([c0, c1, c2, c3, c4, c5, c6, c7, c8].drop 5).take (Tryd.prog.cellsOf 28)) = some y3 := (hf 3 _ rfl).trans e3
    have h4 : DataW.trod enc Tryd.prog w base spare held n' 9 (([c0, c1, c2, c3, c4, c5, c6, c7, c8].drop 7).take (Tryd.prog.cellsOf 9)) = some y4 := (hf 4 _ rfl).trans e4
    have h5 : DataW.trod enc Tryd.prog w base spare held n' 9 (([c0, c1, c2, c3, c4, c5, c6, c7, c8].drop 8).take (Tryd.prog.cellsOf 9)) = some y5 := (hf 5 _ rfl).trans e5
    simp only [cells_int, cells_st, cells_str] at h0 h1 h2 h3 h4 h5
    obtain ⟨k, q0, _, _⟩ := DataW.trod_int Tryd.underlying3 h0
    obtain ⟨s1, q1, _, _⟩ := read_st h1
    obtain ⟨s2, q2, _, _⟩ := read_st h2
    obtain ⟨s3, q3, _, _⟩ := read_st h3
    obtain ⟨b1, q4, _, z1⟩ := DataW.trod_string Tryd.underlying9 h4
    obtain ⟨b2, q5, _, z2⟩ := DataW.trod_string Tryd.underlying9 h5
    simp only [St.cs, List.drop_succ_cons, List.drop_zero, List.take_succ_cons, List.take_zero, List.cons.injEq, and_true] at q0 q1 q2 q3 q4 q5
    obtain ⟨q1, q1'⟩ := q1
    obtain ⟨q2, q2'⟩ := q2
    obtain ⟨q3, q3'⟩ := q3
    subst q0 q1 q1' q2 q2' q3 q3' q4 q5
    exact ⟨⟨k, s1, s2, s3, b1, b2⟩, rfl, z1, z2⟩
theorem read_nd {n : Nat} {cs : List Value} {x : DataW H × List MemPlace} (h : DataW.trod enc Tryd.prog w base spare held n 46 cs = some x) : ∃ o : Nd, cs = o.cs ∧ o.nm.size ≤ maxLen ∧ o.vl.size ≤ maxLen := by
  obtain ⟨ys, n', _, _, hl, hyl, hf⟩ := DataW.trod_struct Tryd.underlying46 h
  rw [cells_nd] at hl
  match cs, hl with
  | [c0, c1, c2, c3, c4, c5], _ =>
    obtain ⟨y0, e0⟩ := getsome (i := 0) hyl (by decide)
    obtain ⟨y1, e1⟩ := getsome (i := 1) hyl (by decide)
    obtain ⟨y2, e2⟩ := getsome (i := 2) hyl (by decide)
    obtain ⟨y3, e3⟩ := getsome (i := 3) hyl (by decide)
    have h0 : DataW.trod enc Tryd.prog w base spare held n' 28 (([c0, c1, c2, c3, c4, c5].drop 0).take (Tryd.prog.cellsOf 28)) = some y0 := (hf 0 _ rfl).trans e0
    have h1 : DataW.trod enc Tryd.prog w base spare held n' 28 (([c0, c1, c2, c3, c4, c5].drop 2).take (Tryd.prog.cellsOf 28)) = some y1 := (hf 1 _ rfl).trans e1
    have h2 : DataW.trod enc Tryd.prog w base spare held n' 9 (([c0, c1, c2, c3, c4, c5].drop 4).take (Tryd.prog.cellsOf 9)) = some y2 := (hf 2 _ rfl).trans e2
    have h3 : DataW.trod enc Tryd.prog w base spare held n' 9 (([c0, c1, c2, c3, c4, c5].drop 5).take (Tryd.prog.cellsOf 9)) = some y3 := (hf 3 _ rfl).trans e3
    simp only [cells_st, cells_str] at h0 h1 h2 h3
    obtain ⟨s1, q1, _, _⟩ := read_st h0
    obtain ⟨s2, q2, _, _⟩ := read_st h1
    obtain ⟨b1, q4, _, z1⟩ := DataW.trod_string Tryd.underlying9 h2
    obtain ⟨b2, q5, _, z2⟩ := DataW.trod_string Tryd.underlying9 h3
    simp only [St.cs, List.drop_succ_cons, List.drop_zero, List.take_succ_cons, List.take_zero, List.cons.injEq, and_true] at q1 q2 q4 q5
    obtain ⟨q1, q1'⟩ := q1
    obtain ⟨q2, q2'⟩ := q2
    subst q1 q1' q2 q2' q4 q5
    exact ⟨⟨s1, s2, b1, b2⟩, rfl, z1, z2⟩

/-- A stamp, an operation, a node by value. -/
theorem open_st {r : Reach} {b0 : Nat} {v : Value} {d : DataW H} {p : List MemPlace} (hv : Value.okWide Tryd.prog w r b0 28 v) (h : DataW.Trod enc Tryd.prog w base spare held 28 v d p) : ∃ s : St, v = s.v := by
  obtain ⟨cs, rfl, hsz⟩ := okWide_struct Tryd.underlying28 hv
  obtain ⟨fuel, hf⟩ := h
  obtain ⟨s, e, _, _⟩ := read_st hf
  refine ⟨s, ?_⟩
  have : cs = s.cs.toArray := by
    simp only [Value.cells] at e
    rw [← e]
  rw [this]
  rfl
theorem open_op {r : Reach} {b0 : Nat} {v : Value} {d : DataW H} {p : List MemPlace} (hv : Value.okWide Tryd.prog w r b0 30 v) (h : DataW.Trod enc Tryd.prog w base spare held 30 v d p) : ∃ s : Opn, v = s.v ∧ s.nm.size ≤ maxLen ∧ s.vl.size ≤ maxLen := by
  obtain ⟨cs, rfl, hsz⟩ := okWide_struct Tryd.underlying30 hv
  obtain ⟨fuel, hf⟩ := h
  obtain ⟨s, e, z1, z2⟩ := read_op hf
  refine ⟨s, ?_, z1, z2⟩
  have : cs = s.cs.toArray := by
    simp only [Value.cells] at e
    rw [← e]
  rw [this]
  rfl
end
end Go.Proofs.YteghkajegdcbjaaDoor
