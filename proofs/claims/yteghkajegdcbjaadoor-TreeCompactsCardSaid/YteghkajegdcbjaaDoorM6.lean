/-
  Slices of operations and of nodes as they are read: what each cell holds.
-/
import Derived.Test.YteghkajegdcbjaaDoorM5
import Derived.Test.YteghkajegdcbjaaDoorT7
namespace Go.Proofs.YteghkajegdcbjaaDoor
open Go.ChangeShapes Go.WideShapes Go.Deep Go.RowKit
set_option maxRecDepth 100000

/-- These cells stand from an address on. -/
def CellsAt (w : World) (p : Addr) (cs : List Value) : Prop := ∀ j, j < cs.length → w.cell? (p.add j) = cs[j]?
theorem CellsAt.below {w w' : World} {p : Addr} {cs : List Value} {B : Nat} (h : CellsAt w p cs) (hb : Below B w w') (hp : p.block < B) : CellsAt w' p cs := fun j hj => by
  rw [hb.cell (p := p.add j) (by unfold Addr.add; split <;> exact hp)]
  exact h j hj
theorem CellsAt.fr {w w' : World} {p : Addr} {cs : List Value} {S : List Nat} (h : CellsAt w p cs) (hb : Fr S w w') (hp : p.block < w.heap.size) (hs : p.block ∉ S) : CellsAt w' p cs := fun j hj => by
  rw [hb.cell (p := p.add j) (by unfold Addr.add; split <;> exact hp) (by unfold Addr.add; split <;> exact hs)]
  exact h j hj
theorem CellsAt.get {w : World} {p : Addr} {cs : List Value} (h : CellsAt w p cs) (j : Nat) {v : Value} (hv : cs[j]? = some v) : w.cell? (p.add j) = some v := by
  rw [h j (List.getElem?_eq_some_iff.1 hv).1, hv]
theorem add_block (a : Addr) (n : Nat) : (a.add n).block = a.block := by unfold Addr.add; split <;> rfl
theorem add_zero (a : Addr) : a.add 0 = a := rfl
theorem add_succ (a : Addr) (n : Nat) : a.add (n + 1) = ⟨a.block, a.off + (n + 1), none⟩ := rfl

/-- A slice that reads as these operations. -/
def SlO (w : World) (v : Value) (l : List Opn) : Prop :=
  (v = .slice none 0 0 ∧ l = []) ∨ ∃ (a : Addr) (cap : Nat), v = .slice (some a) l.length cap ∧ l.length ≤ cap ∧ l.length ≤ maxLen ∧ ∀ i, (hi : i < l.length) → CellsAt w (a.add (i * 9)) l[i].cs ∧ a.block < w.heap.size
/-- A slice that reads as these nodes. -/
def SlN (w : World) (v : Value) (l : List Nd) : Prop :=
  (v = .slice none 0 0 ∧ l = []) ∨ ∃ (a : Addr) (cap : Nat), v = .slice (some a) l.length cap ∧ l.length ≤ cap ∧ l.length ≤ maxLen ∧ ∀ i, (hi : i < l.length) → CellsAt w (a.add (i * 6)) l[i].cs ∧ a.block < w.heap.size
theorem SlO.below {w w' : World} {v : Value} {l : List Opn} {B : Nat} (h : SlO w v l) (hb : Below B w w') (hB : w.heap.size ≤ B) : SlO w' v l := by
  rcases h with h | ⟨a, cap, h1, h2, h3, h4⟩
  · exact .inl h
  · exact .inr ⟨a, cap, h1, h2, h3, fun i hi => ⟨(h4 i hi).1.below hb (by rw [add_block]; have := (h4 i hi).2; omega), by have := (h4 i hi).2; have := hb.size; omega⟩⟩
theorem SlN.below {w w' : World} {v : Value} {l : List Nd} {B : Nat} (h : SlN w v l) (hb : Below B w w') (hB : w.heap.size ≤ B) : SlN w' v l := by
  rcases h with h | ⟨a, cap, h1, h2, h3, h4⟩
  · exact .inl h
  · exact .inr ⟨a, cap, h1, h2, h3, fun i hi => ⟨(h4 i hi).1.below hb (by rw [add_block]; have := (h4 i hi).2; omega), by have := (h4 i hi).2; have := hb.size; omega⟩⟩
theorem SlO.slice {w : World} {v : Value} {l : List Opn} (h : SlO w v l) : ∃ A cap, v = .slice A l.length cap ∧ l.length ≤ maxLen ∧ ∀ i, (hi : i < l.length) → ∃ a, A = some a ∧ l.length ≤ cap ∧ CellsAt w (a.add (i * 9)) l[i].cs ∧ a.block < w.heap.size := by
  rcases h with ⟨rfl, rfl⟩ | ⟨a, cap, h1, h2, h3, h4⟩
  · exact ⟨none, 0, rfl, by simp, fun i hi => by simp at hi⟩
  · exact ⟨some a, cap, h1, h3, fun i hi => ⟨a, rfl, h2, (h4 i hi).1, (h4 i hi).2⟩⟩
theorem SlN.slice {w : World} {v : Value} {l : List Nd} (h : SlN w v l) : ∃ A cap, v = .slice A l.length cap ∧ l.length ≤ maxLen ∧ ∀ i, (hi : i < l.length) → ∃ a, A = some a ∧ l.length ≤ cap ∧ CellsAt w (a.add (i * 6)) l[i].cs ∧ a.block < w.heap.size := by
  rcases h with ⟨rfl, rfl⟩ | ⟨a, cap, h1, h2, h3, h4⟩
  · exact ⟨none, 0, rfl, by simp, fun i hi => by simp at hi⟩
  · exact ⟨some a, cap, h1, h3, fun i hi => ⟨a, rfl, h2, (h4 i hi).1, (h4 i hi).2⟩⟩
/-- A slice of the call's own reads so. -/
theorem flat_get {α : Type} (f : α → List Value) (k : Nat) (hk : ∀ x, (f x).length = k) : ∀ (l : List α) (i j : Nat) (hi : i < l.length), j < k → (l.flatMap f)[i * k + j]? = (f l[i])[j]?
  | [], i, j, hi, _ => by simp at hi
  | x :: l, 0, j, _, hj => by
    simp only [List.flatMap_cons, Nat.zero_mul, Nat.zero_add, List.getElem_cons_zero]
    rw [List.getElem?_append_left (by rw [hk]; exact hj)]
  | x :: l, i + 1, j, hi, hj => by
    have ih := flat_get f k hk l i j (by simpa using hi) hj
    simp only [List.flatMap_cons, List.getElem_cons_succ]
    rw [List.getElem?_append_right (by rw [hk, Nat.add_mul]; omega), hk, ← ih]
    congr 1
    rw [Nat.add_mul]; omega
theorem own_cells {w : World} {g cap n base k : Nat} {e : TypeId} {xs : List Value} (h : w.ownsRow base e k (.slice (some ⟨g, 0, none⟩) n cap) n xs) (m : Nat) (hm : m < n * k) : w.cell? ((⟨g, 0, none⟩ : Addr).add m) = xs[m]? := by
  have h1 := h.cells (g := g) rfl m
  have hl : xs.length = n * k := h.1
  have h2 : xs[m]? = some (xs[m]'(by omega)) := List.getElem?_eq_getElem (by omega)
  rw [h1 _ h2, h2]
theorem add_add_own (g m j : Nat) : ((⟨g, 0, none⟩ : Addr).add m).add j = (⟨g, 0, none⟩ : Addr).add (m + j) := by
  unfold Addr.add
  by_cases h1 : m = 0 <;> by_cases h2 : j = 0 <;> simp [h1, h2]
theorem slN_own {w : World} {base : Nat} {v : Value} {l : List Nd} (h : w.ownsRow base 46 6 v l.length (flatN l)) : SlN w v l := by
  rcases h.2 with ⟨rfl, h0⟩ | ⟨g, cap, cur, rfl, hb, hg, hc1, hc2, _⟩
  · exact .inl ⟨rfl, List.eq_nil_of_length_eq_zero h0⟩
  · refine .inr ⟨⟨g, 0, none⟩, cap, rfl, hc1, Nat.le_trans hc1 hc2, fun i hi => ⟨fun j hj => ?_, (Array.getElem?_eq_some_iff.1 hg).1⟩⟩
    have hj6 : j < 6 := hj
    rw [add_add_own, own_cells h _ (by have : (i + 1) * 6 ≤ l.length * 6 := Nat.mul_le_mul_right _ hi; omega)]
    exact flat_get Nd.cs 6 (fun _ => rfl) l i j hi hj6
theorem slO_own {w : World} {base : Nat} {v : Value} {l : List Opn} (h : w.ownsRow base 30 9 v l.length (flatO l)) : SlO w v l := by
  rcases h.2 with ⟨rfl, h0⟩ | ⟨g, cap, cur, rfl, hb, hg, hc1, hc2, _⟩
  · exact .inl ⟨rfl, List.eq_nil_of_length_eq_zero h0⟩
  · refine .inr ⟨⟨g, 0, none⟩, cap, rfl, hc1, Nat.le_trans hc1 hc2, fun i hi => ⟨fun j hj => ?_, (Array.getElem?_eq_some_iff.1 hg).1⟩⟩
    have hj9 : j < 9 := hj
    rw [add_add_own, own_cells h _ (by have : (i + 1) * 9 ≤ l.length * 9 := Nat.mul_le_mul_right _ hi; omega)]
    exact flat_get Opn.cs 9 (fun _ => rfl) l i j hi hj9

section
variable {H : Type} {enc : TypeId × Value → H} {w : World} {base : Nat} {spare : Nat → Bool} {held : Bool}
/-- Some list of these. -/
theorem pick_list {α : Type} {n : Nat} {P : Nat → α → Prop} (h : ∀ i, i < n → ∃ x, P i x) : ∃ l : List α, l.length = n ∧ ∀ i, (hi : i < l.length) → P i l[i] := by
  induction n with
  | zero => exact ⟨[], rfl, fun i hi => by simp at hi⟩
  | succ n ih =>
    obtain ⟨l, hl, hp⟩ := ih (fun i hi => h i (by omega))
    obtain ⟨x, hx⟩ := h n (by omega)
    refine ⟨l ++ [x], by simp [hl], fun i hi => ?_⟩
    by_cases hin : i < l.length
    · rw [List.getElem_append_left hin]; exact hp i hin
    · have : i = l.length := by simp at hi; omega
      subst this
      rw [List.getElem_append_right (Nat.le_refl _)]
      simp only [Nat.sub_self, List.getElem_cons_zero]
      rw [hl]; exact hx
theorem cells_at {p : Addr} {n : Nat} {cs : List Value} (h : w.cells? base p n = some cs) (hn : cs.length = n) : CellsAt w p cs := fun j hj => by
  obtain ⟨_, hcl, hat⟩ := World.cells?_some h
  have := hat j (by omega)
  exact this
theorem open_slO {r : Reach} {b0 : Nat} {v : Value} {d : DataW H} {p : List MemPlace} (hv : Value.okWide Tryd.prog w r b0 22 v) (h : DataW.Trod enc Tryd.prog w base spare held 22 v d p) : ∃ l : List Opn, SlO w v l ∧ ∀ o ∈ l, o.nm.size ≤ maxLen ∧ o.vl.size ≤ maxLen := by
  obtain ⟨a0, len0, cap0, rfl⟩ := okWide_slice Tryd.underlying22 hv
  obtain ⟨fuel, hf⟩ := h
  rcases open_slice Tryd.underlying22 hf with ⟨e, _⟩ | ⟨a, len, cap, m, n, D, Pl, e, hb, hl, hm, hmm, hx, hi⟩
  · simp only [Value.cells, List.cons.injEq, and_true] at e
    exact ⟨[], .inl ⟨e, rfl⟩, by simp⟩
  · simp only [Value.cells, List.cons.injEq, and_true] at e
    rw [e]
    have hlm : len ≤ m := by rw [hmm]; split <;> omega
    obtain ⟨l, hll, hp⟩ := pick_list (n := len) (P := fun i (o : Opn) => CellsAt w (a.add (i * 9)) o.cs ∧ o.nm.size ≤ maxLen ∧ o.vl.size ≤ maxLen) (fun i hil => by
      obtain ⟨cs, hc, ht⟩ := hi i (by omega)
      rw [cells_op] at hc
      obtain ⟨o, rfl, z1, z2⟩ := read_op ht
      exact ⟨o, cells_at hc rfl, z1, z2⟩)
    refine ⟨l, .inr ⟨a, cap, by rw [hll], by omega, by omega, fun i hil => ⟨(hp i hil).1, ?_⟩⟩, fun o ho => ?_⟩
    · have h1 := (hp i hil).1 0 (by show 0 < 9; omega)
      have h2 : (l[i].cs)[0]? = some (.int .i64 l[i].kind) := rfl
      rw [h2, add_zero] at h1
      have h3 := World.block_lt_of_cell? w _ h1
      rwa [add_block] at h3
    · obtain ⟨i, hil, rfl⟩ := List.getElem_of_mem ho
      exact (hp i hil).2
theorem open_slN {r : Reach} {b0 : Nat} {v : Value} {d : DataW H} {p : List MemPlace} (hv : Value.okWide Tryd.prog w r b0 36 v) (h : DataW.Trod enc Tryd.prog w base spare held 36 v d p) : ∃ l : List Nd, SlN w v l ∧ ∀ o ∈ l, o.nm.size ≤ maxLen ∧ o.vl.size ≤ maxLen := by
  obtain ⟨a0, len0, cap0, rfl⟩ := okWide_slice Tryd.underlying36 hv
  obtain ⟨fuel, hf⟩ := h
  rcases open_slice Tryd.underlying36 hf with ⟨e, _⟩ | ⟨a, len, cap, m, n, D, Pl, e, hb, hl, hm, hmm, hx, hi⟩
  · simp only [Value.cells, List.cons.injEq, and_true] at e
    exact ⟨[], .inl ⟨e, rfl⟩, by simp⟩
  · simp only [Value.cells, List.cons.injEq, and_true] at e
    rw [e]
    have hlm : len ≤ m := by rw [hmm]; split <;> omega
    obtain ⟨l, hll, hp⟩ := pick_list (n := len) (P := fun i (o : Nd) => CellsAt w (a.add (i * 6)) o.cs ∧ o.nm.size ≤ maxLen ∧ o.vl.size ≤ maxLen) (fun i hil => by
      obtain ⟨cs, hc, ht⟩ := hi i (by omega)
      rw [cells_nd] at hc
      obtain ⟨o, rfl, z1, z2⟩ := read_nd ht
      exact ⟨o, cells_at hc rfl, z1, z2⟩)
    refine ⟨l, .inr ⟨a, cap, by rw [hll], by omega, by omega, fun i hil => ⟨(hp i hil).1, ?_⟩⟩, fun o ho => ?_⟩
    · have h1 := (hp i hil).1 0 (by show 0 < 6; omega)
      have h2 : (l[i].cs)[0]? = some (.int .i64 l[i].id.t) := rfl
      rw [h2, add_zero] at h1
      have h3 := World.block_lt_of_cell? w _ h1
      rwa [add_block] at h3
    · obtain ⟨i, hil, rfl⟩ := List.getElem_of_mem ho
      exact (hp i hil).2
end
end Go.Proofs.YteghkajegdcbjaaDoor
