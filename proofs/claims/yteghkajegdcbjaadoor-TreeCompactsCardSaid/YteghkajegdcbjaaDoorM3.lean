/-
  Rows that the library's sort has sorted: what the slice owns behind it. No program stands here.
-/
import Derived.Test.YteghkajegdcbjaaDoorP1
import Derived.Shelf.SlSortCmp.WholeK
namespace Go.Proofs.YteghkajegdcbjaaDoor
open Go.RowKit Go.Sort

theorem heap_sortedV {w : World} {g n : Nat} {os : Array Obj} {cur : Array Value} {e : TypeId} {fr : Nat × Nat} (d : Array Value) (hb : w.heap[g]? = some (.cells cur e fr)) :
    (grow (putRow id (Sort.ahead w n) g 0 d) os).heap[g]? = some (.cells (putCells id 0 d cur) e fr) := by
  have hg : g < w.heap.size := (Array.getElem?_eq_some_iff.1 hb).1
  rw [heap_grow_old _ _ (by simpa using hg)]
  simp [putRow, mapBlock, Sort.ahead, Array.getElem?_modify, hb, onCells]
theorem grownBy_sortedV {w : World} {g n : Nat} {os : Array Obj} (d : Array Value) : w.grownBy (grow (putRow id (Sort.ahead w n) g 0 d) os) (some g) := by
  refine ⟨rfl, rfl, rfl, by simp, fun k hk hne => ?_⟩
  rw [heap_grow_old _ _ (by simpa using hk)]
  have : g ≠ k := fun e => hne (by rw [e])
  simp [putRow, mapBlock, Sort.ahead, Array.getElem?_modify, this]
theorem take_putCellsV (cur : Array Value) (ts : Array Value) (h : ts.size ≤ cur.size) : (putCells id 0 ts cur).toList.take ts.size = ts.toList := by
  apply List.ext_getElem?
  intro j
  by_cases hj : j < ts.size
  · rw [List.getElem?_take_of_lt hj, Array.getElem?_toList]
    simp [putCells, hj, show j < cur.size by omega]
  · rw [List.getElem?_take_eq_none (by omega), List.getElem?_eq_none (by simp; omega)]

variable {α : Type}
theorem flatMap_length (enc : α → List Value) (k : Nat) (hk : ∀ x, (enc x).length = k) (l : List α) : (l.flatMap enc).length = l.length * k := by
  induction l with
  | nil => simp
  | cons x l ih => rw [List.flatMap_cons, List.length_append, ih, hk, List.length_cons, Nat.add_mul, Nat.one_mul, Nat.add_comm]
theorem flatMap_get (enc : α → List Value) (k : Nat) (hk : ∀ x, (enc x).length = k) : ∀ (l : List α) (i j : Nat) (hi : i < l.length), j < k → (l.flatMap enc)[i * k + j]? = (enc l[i])[j]?
  | [], i, j, hi, _ => by simp at hi
  | x :: l, 0, j, hi, hj => by
    rw [List.flatMap_cons, List.getElem?_append_left (by rw [hk]; omega)]
    simp
  | x :: l, i + 1, j, hi, hj => by
    rw [List.flatMap_cons, List.getElem?_append_right (by rw [hk, Nat.add_mul]; omega), hk]
    have := flatMap_get enc k hk l i j (by simpa using hi) hj
    rw [show (i + 1) * k + j - k = i * k + j by rw [Nat.add_mul]; omega, this]
    simp
theorem flatK_toList [Inhabited α] (enc : α → List Value) (k : Nat) (hk0 : 0 < k) (hk : ∀ x, (enc x).length = k) (d : Array α) : (flatK enc k d).toList = d.toList.flatMap enc := by
  apply List.ext_getElem?
  intro t
  by_cases ht : t < d.size * k
  · have hi : t / k < d.size := Nat.div_lt_of_lt_mul (by rw [Nat.mul_comm]; exact ht)
    have h1 : (flatK enc k d).toList[t]? = some ((flatK enc k d)[t]!) := by
      rw [Array.getElem?_toList, getElem!_pos (flatK enc k d) t (by simpa using ht)]
      exact Array.getElem?_eq_getElem (by simpa using ht)
    have h2 := flatMap_get enc k hk d.toList (t / k) (t % k) (by simpa using hi) (Nat.mod_lt _ hk0)
    rw [show t / k * k + t % k = t from Nat.div_add_mod' t k] at h2
    rw [h1, h2, get_flatK enc k d t ht, getElem!_pos d (t / k) hi]
    have h3 : t % k < (enc d[t / k]).length := by rw [hk]; exact Nat.mod_lt _ hk0
    rw [getElem!_pos (enc d[t / k]) (t % k) h3]
    simp [h3]
  · rw [List.getElem?_eq_none (by simp; omega), List.getElem?_eq_none (by rw [flatMap_length enc k hk]; simp; omega)]
theorem holdsK_own [Inhabited α] {w : World} {base g cap : Nat} {e : TypeId} (enc : α → List Value) (k : Nat) (hk0 : 0 < k) (hk : ∀ x, (enc x).length = k) {l : List α} (h : w.ownsRow base e k (.slice (some ⟨g, 0, none⟩) l.length cap) l.length (l.flatMap enc)) :
    HoldsK enc k w g 0 l.toArray := by
  intro j hj
  have hj' : j < l.length * k := by simpa using hj
  refine ⟨?_, h.frozenAt _⟩
  rw [Nat.zero_add, h.cellAt j hj']
  have h1 := flatK_toList enc k hk0 hk l.toArray
  simp only at h1
  rw [← h1, Array.getElem?_toList, getElem!_pos (flatK enc k l.toArray) j (by simpa using hj'), Array.getElem?_eq_getElem (by simpa using hj')]
  rfl
theorem own_sorted [Inhabited α] {w : World} {base g cap n : Nat} {e : TypeId} {os : Array Obj} (enc : α → List Value) (k : Nat) (hk0 : 0 < k) (hk : ∀ x, (enc x).length = k) {l : List α} {d' : Array α} (hd : d'.size = l.length) (h : w.ownsRow base e k (.slice (some ⟨g, 0, none⟩) l.length cap) l.length (l.flatMap enc)) :
    (sortWorldK enc k w g 0 n d' os).ownsRow base e k (.slice (some ⟨g, 0, none⟩) l.length cap) l.length (d'.toList.flatMap enc) ∧ w.grownBy (sortWorldK enc k w g 0 n d' os) (some g) := by
  refine ⟨⟨by rw [flatMap_length enc k hk]; simp [hd], ?_⟩, grownBy_sortedV _⟩
  rcases h.2 with ⟨h0, _⟩ | ⟨g', cap', cur, hv, hg, hb, hn, hcap, hsz, ht⟩
  · cases h0
  · cases hv
    refine .inr ⟨g, cap, _, rfl, hg, heap_sortedV _ hb, hn, hcap, by simp [putCells, hsz], ?_⟩
    have h2 := take_putCellsV cur (flatK enc k d') (by simp [hd, hsz]; exact Nat.mul_le_mul_right _ hn)
    rw [flatK_toList enc k hk0 hk, size_flatK, hd] at h2
    exact h2
end Go.Proofs.YteghkajegdcbjaaDoor
