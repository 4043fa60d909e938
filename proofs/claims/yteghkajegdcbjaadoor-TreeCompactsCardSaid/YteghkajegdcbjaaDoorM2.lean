/-
  Words on memory: 'IterAt': a block is an iterator over a map, to which these entries are still to come; what range, next and entry do. No program stands here.
-/
import Derived.Test.YteghkajegdcbjaaDoorM1
import Derived.RangeFuncSeq
namespace Go.Proofs.YteghkajegdcbjaaDoor
open Go.RowKit
open Go.ChangeMaps (setBlock)
open Go.MapKept (Stamped stamped_iff)

section
variable {α β : Type} {P : Program} {ek : α → Value} {ev : β → Value} {w : World} {b it : Nat} {m left : List (α × β)}

theorem leftOf_toList (es : Array MapEntry) (seen : Array Nat) : (leftOf es seen).toList = es.toList.filter fun e => !seen.contains e.born := by simp [leftOf]

/-- Block it is an iterator over the map in block b, which holds m: 'left' are still to come. -/
def IterAt (ek : α → Value) (ev : β → Value) (w : World) (it b : Nat) (m left : List (α × β)) : Prop :=
  ∃ es clock since seen c0, w.heap[it]? = some (.mapIter (some b) since seen c0) ∧ w.heap[b]? = some (.map es clock) ∧ Stamped es clock ∧ (es.toList.map kvOf).Perm (m.map (encKV ek ev)) ∧
    (m.map Prod.fst).Nodup ∧ (∀ x ∈ es.toList, x.born < since) ∧ (since ≤ c0 ∧ since ≤ clock ∧ ∀ p ∈ left, p ∈ m) ∧ ((leftOf es seen).toList.map kvOf).Perm (left.map (encKV ek ev))

theorem IterAt.lt (h : IterAt ek ev w it b m left) : it < w.heap.size := by
  obtain ⟨es, clock, since, seen, c0, h1, _⟩ := h
  exact (Array.getElem?_eq_some_iff.1 h1).1
theorem IterAt.map (h : IterAt ek ev w it b m left) : MapAt ek ev w b m := by
  obtain ⟨es, clock, since, seen, c0, h1, h2, h3, h4, h5, _⟩ := h
  exact ⟨es, clock, h2, h3, h4, h5⟩
theorem IterAt.ne (h : IterAt ek ev w it b m left) : it ≠ b := by
  obtain ⟨es, clock, since, seen, c0, h1, h2, _⟩ := h
  intro e; subst e; rw [h1] at h2; cases h2
theorem IterAt.of_block {w' : World} (h : IterAt ek ev w it b m left) (h1 : w'.heap[it]? = w.heap[it]?) (h2 : w'.heap[b]? = w.heap[b]?) : IterAt ek ev w' it b m left := by
  obtain ⟨es, clock, since, seen, c0, k1, k2, r⟩ := h
  exact ⟨es, clock, since, seen, c0, h1.trans k1, h2.trans k2, r⟩
theorem IterAt.alloc (h : IterAt ek ev w it b m left) (o : Obj) : IterAt ek ev (w.alloc o) it b m left := h.of_block (Below.heap_alloc _ _ _ h.lt) (Below.heap_alloc _ _ _ h.map.lt)
theorem IterAt.walk (h : IterAt ek ev w it b m left) : ∃ o, w.heap[it]? = some o ∧ o.isWalk = true := by
  obtain ⟨es, clock, since, seen, c0, h1, _⟩ := h
  exact ⟨_, h1, rfl⟩
theorem IterAt.of_walks {w' : World} (h : IterAt ek ev w it b m left) (k : KeepsWalks w w') : IterAt ek ev w' it b m left := by
  obtain ⟨es, clock, since, seen, c0, k1, k2, r⟩ := h
  exact ⟨es, clock, since, seen, c0, k.same _ _ k1 rfl, k.same _ _ k2 rfl, r⟩

/-- 'range m'. -/
theorem MapAt.range (h : MapAt ek ev w b m) {T K E : TypeId} (hT : P.underlying T = some (.map K E)) :
    ∃ o, (Instr.range T (.map (some b))).run P w = .ok (.pointer (some ⟨w.heap.size, 0, none⟩)) (w.alloc o) ∧ IterAt ek ev (w.alloc o) w.heap.size b m m := by
  have hlt := h.lt
  obtain ⟨es, clock, hb, hs, hp, hn⟩ := h
  refine ⟨.mapIter (some b) clock #[] clock, ?_, es, clock, clock, #[], clock, (MapKept.heap_alloc w _).1, (Below.heap_alloc _ _ _ hlt).trans hb, hs, hp, hn, ((stamped_iff es clock).1 hs).1, ⟨Nat.le_refl _, Nat.le_refl _, fun _ h => h⟩, ?_⟩
  · simp [Instr.range, run_underlying hT, MapKept.run_getObj_map hb, Result.andThen, newObj, Sem.run, World.alloc_eq]
  · rw [leftOf_toList, List.filter_eq_self.2 (by simp)]
    exact hp

/-- 'next'. -/
theorem IterAt.next (h : IterAt ek ev w it b m left) (ty : TypeId) :
    (left = [] ∧ (Instr.next (.pointer (some ⟨it, 0, none⟩)) false ty).run P w = .ok (.tuple #[.bool false]) w) ∨
    ∃ k v left' w', left.Perm ((k, v) :: left') ∧ (k, v) ∈ m ∧ (Instr.next (.pointer (some ⟨it, 0, none⟩)) false ty).run P w = .ok (.tuple #[.bool true, ek k, ev v]) w' ∧ IterAt ek ev w' it b m left' ∧
      w.grownBy w' (some it) ∧ w'.heap.size = w.heap.size ∧
      (∀ W : World, W.heap[it]? = w'.heap[it]? → W.heap[b]? = w'.heap[b]? → (Instr.entry (.pointer (some ⟨it, 0, none⟩))).run P W = .ok (.tuple #[ek k, ev v]) W) := by
  have hne := h.ne
  have hlt := h.lt
  obtain ⟨es, clock, since, seen, c0, h1, h2, h3, h4, h5, h6, h7, h8⟩ := h
  have hst := (stamped_iff es clock).1 h3
  rcases run_next_at (P := P) w ty it b since c0 seen es clock h1 h2 h6 h7.1 with ⟨k1, k2⟩ | ⟨e, k1, w1, k2, k3⟩
  · refine Or.inl ⟨?_, k2⟩
    have : (leftOf es seen).toList = [] := by simpa using Array.eq_empty_of_size_eq_zero k1
    rw [this] at h8
    simpa using h8
  · have hmem := mem_left k1
    have hkv : kvOf e ∈ left.map (encKV ek ev) := h8.mem_iff.1 (List.mem_map.2 ⟨e, k1, rfl⟩)
    obtain ⟨p, hp, hpe⟩ := List.mem_map.1 hkv
    have hek : ek p.1 = e.key ∧ ev p.2 = e.val := by simpa [encKV, kvOf] using hpe
    -- what is left behind the step
    obtain ⟨A, B, hAB⟩ := List.append_of_mem k1
    have hnod : ((leftOf es seen).toList.map (·.born)).Nodup := by
      rw [leftOf_toList]; exact hst.2.1.sublist ((List.filter_sublist).map _)
    have hl2 : (leftOf es (seen.push e.born)).toList = A ++ B := by
      have e1 : (leftOf es (seen.push e.born)).toList = (leftOf es seen).toList.filter (fun x => x.born ≠ e.born) := by
        rw [leftOf_toList, leftOf_toList, List.filter_filter]
        congr 1
        funext x
        simp only [Array.contains_push]
        by_cases hx : x.born = e.born
        · simp [hx]
        · have : (x.born == e.born) = false := by simpa using hx
          simp [this, hx]
      rw [e1, hAB]
      rw [hAB] at hnod
      simp only [List.map_append, List.map_cons] at hnod
      rw [List.nodup_append] at hnod
      obtain ⟨_, n2, n3⟩ := hnod
      have n4 := (List.nodup_cons.1 n2).1
      rw [List.filter_append, List.filter_cons_of_neg (by simp)]
      congr 1
      · rw [List.filter_eq_self]
        intro x hx
        have := n3 _ (List.mem_map.2 ⟨x, hx, rfl⟩) e.born (by simp)
        simpa using this
      · rw [List.filter_eq_self]
        intro x hx
        have : x.born ≠ e.born := fun h => n4 (List.mem_map.2 ⟨x, hx, h⟩)
        simpa using this
    obtain ⟨C, D, hCD⟩ := List.append_of_mem hp
    have hw1 : w1.heap = w.heap ∧ w1.os = w.os ∧ w1.tape = w.tape ∧ w1.output = w.output := by rcases k2 with rfl | rfl <;> exact ⟨rfl, rfl, rfl, rfl⟩
    have hit : (setBlock w1 it (.mapIter (some b) since (seen.push e.born) clock)).heap[it]? = some (.mapIter (some b) since (seen.push e.born) clock) := by
      simp [setBlock, hw1.1, hlt]
    have hbb : (setBlock w1 it (.mapIter (some b) since (seen.push e.born) clock)).heap[b]? = some (.map es clock) := by
      simp only [setBlock, hw1.1]
      rw [Array.getElem?_setIfInBounds_ne hne]
      exact h2
    have hpm : p ∈ m := h7.2.2 p hp
    refine Or.inr ⟨p.1, p.2, C ++ D, _, ?_, hpm, ?_, ⟨es, clock, since, seen.push e.born, clock, hit, hbb, h3, h4, h5, h6, ?_, ?_⟩, ?_, ?_, ?_⟩
    · rw [hCD]; exact List.perm_middle
    · rw [hek.1, hek.2]; exact k3
    · exact ⟨h7.2.1, h7.2.1, fun q hq => h7.2.2 q (by rw [hCD]; simp at hq ⊢; rcases hq with h | h <;> simp [h])⟩
    · rw [hl2]
      have e2 : kvOf e = encKV ek ev p := hpe.symm
      rw [hAB, hCD] at h8
      simp only [List.map_append, List.map_cons] at h8 ⊢
      have h9 := (List.perm_middle.symm.trans h8).trans List.perm_middle
      rw [e2] at h9
      exact List.Perm.cons_inv h9
    · exact ⟨hw1.2.1, hw1.2.2.1, hw1.2.2.2, by simp [setBlock, hw1.1], fun i _ hi => by
        simp only [setBlock, hw1.1]
        exact Array.getElem?_setIfInBounds_ne (fun e => hi (by rw [e]))⟩
    · simp [setBlock, hw1.1]
    · intro W k4 k5
      rw [hek.1, hek.2]
      exact run_entry_at W it b since seen es clock e (k4.trans hit) (k5.trans hbb) hmem.1 hst.2.1
end
end Go.Proofs.YteghkajegdcbjaaDoor
