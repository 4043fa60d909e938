/-
  Words on memory: 'Fr S w w'': all blocks but those in S are as they were; 'MapAt': a block is a map that holds just these keys and values; what lookup, store, clear and len do to it. No program stands here.
-/
import Derived.Maps.RangeRun
import Derived.WalkKit
import Derived.Maps.Keyed
namespace Go.Proofs.YteghkajegdcbjaaDoor
open Go.RowKit
open Go.ChangeMaps (setBlock heap_setBlock_same heap_setBlock_other)
open Go.MapKept (Stamped stamped_iff stamped_empty stamped_push stamped_modify)

/-- All blocks that there were, but those of S, are as they were; none has gone. -/
structure Fr (S : List Nat) (w w' : World) : Prop where
  os : w'.os = w.os
  tape : w'.tape = w.tape
  output : w'.output = w.output
  size : w.heap.size ≤ w'.heap.size
  block : ∀ k, k < w.heap.size → k ∉ S → w'.heap[k]? = w.heap[k]?

/-- Below, from a call that began later. -/
theorem below_up {B : Nat} {a w w' : World} (h : Below B a w) (k : Below w.heap.size w w') (hB : B ≤ w.heap.size) : Below B a w' := h.trans (k.mono hB)
theorem Fr.refl (S : List Nat) (w : World) : Fr S w w := ⟨rfl, rfl, rfl, Nat.le_refl _, fun _ _ _ => rfl⟩
theorem Fr.trans {S : List Nat} {a b c : World} (h : Fr S a b) (k : Fr S b c) : Fr S a c :=
  ⟨k.os.trans h.os, k.tape.trans h.tape, k.output.trans h.output, Nat.le_trans h.size k.size, fun i hi hs => (k.block i (Nat.lt_of_lt_of_le hi h.size) hs).trans (h.block i hi hs)⟩
/-- Two steps: what the second one may write is of the first one's, or new. -/
theorem Fr.trans' {S T : List Nat} {a b c : World} (h : Fr S a b) (k : Fr T b c) (ht : ∀ x ∈ T, x ∈ S ∨ a.heap.size ≤ x) : Fr S a c :=
  ⟨k.os.trans h.os, k.tape.trans h.tape, k.output.trans h.output, Nat.le_trans h.size k.size, fun i hi hs =>
    (k.block i (Nat.lt_of_lt_of_le hi h.size) (fun hm => by rcases ht i hm with h1 | h1; exact hs h1; omega)).trans (h.block i hi hs)⟩
theorem Fr.mono {S T : List Nat} {a b : World} (h : Fr S a b) (hs : ∀ x ∈ S, x ∈ T ∨ a.heap.size ≤ x) : Fr T a b :=
  ⟨h.os, h.tape, h.output, h.size, fun i hi hn => h.block i hi (fun hm => by rcases hs i hm with h1 | h1; exact hn h1; omega)⟩
theorem Fr.of_below {a b : World} (S : List Nat) (h : Below a.heap.size a b) : Fr S a b := ⟨h.os, h.tape, h.output, h.size, fun k hk _ => h.block k hk⟩
theorem Fr.below {a b : World} (h : Fr [] a b) : Below a.heap.size a b := ⟨h.os, h.tape, h.output, h.size, fun k hk => h.block k hk (by simp)⟩
theorem Fr.below_of {S : List Nat} {B : Nat} {a b : World} (h : Fr S a b) (hB : B ≤ a.heap.size) (hS : ∀ x ∈ S, B ≤ x) : Below B a b :=
  ⟨h.os, h.tape, h.output, h.size, fun k hk => h.block k (by omega) (fun hm => by have := hS k hm; omega)⟩
theorem Fr.alloc {S : List Nat} {a w : World} (h : Fr S a w) (o : Obj) : Fr S a (w.alloc o) :=
  ⟨h.os, h.tape, h.output, by have := h.size; simp; omega, fun k hk hs => (Below.heap_alloc _ _ _ (by have := h.size; omega)).trans (h.block k hk hs)⟩
theorem Fr.drew {S : List Nat} {a w : World} (h : Fr S a w) : Fr S a w.drew := ⟨h.os, h.tape, h.output, h.size, h.block⟩
theorem Fr.grown {S : List Nat} {a w w' : World} {row : Option Nat} (h : Fr S a w) (hg : w.grownBy w' row) (hr : ∀ k, row = some k → k ∈ S ∨ a.heap.size ≤ k) : Fr S a w' :=
  ⟨hg.os.trans h.os, hg.tape.trans h.tape, hg.output.trans h.output, Nat.le_trans h.size hg.size, fun k hk hs =>
    (hg.block k (Nat.lt_of_lt_of_le hk h.size) (fun e => by rcases hr k e.symm with h1 | h1; exact hs h1; omega)).trans (h.block k hk hs)⟩
theorem Fr.setCell {S : List Nat} {a w : World} (h : Fr S a w) {p : Addr} (hp : p.block ∈ S ∨ a.heap.size ≤ p.block) (u : Value) : Fr S a (w.setCell p u) :=
  ⟨h.os, h.tape, h.output, by have := h.size; simp [World.setCell]; exact this, fun k hk hs => (Below.heap_setCell _ _ _ _ (fun e => by subst e; rcases hp with h1 | h1; exact hs h1; omega)).trans (h.block k hk hs)⟩
theorem Fr.cell {S : List Nat} {w w' : World} (h : Fr S w w') {p : Addr} (hp : p.block < w.heap.size) (hs : p.block ∉ S) : w'.cell? p = w.cell? p := World.cell?_of_block (w := w) (h.block p.block hp hs)
theorem Fr.frozen {S : List Nat} {w w' : World} (h : Fr S w w') {p : Addr} (hp : p.block < w.heap.size) (hs : p.block ∉ S) : w'.frozen? p = w.frozen? p := World.frozen?_of_block (w := w) (h.block p.block hp hs)

/-- Block b is a row of these cells; none of them is frozen. -/
def Blk (w : World) (b : Nat) (cs : List Value) (T : TypeId) : Prop := w.heap[b]? = some (.cells cs.toArray T (0, 0))
section
variable {w : World} {b : Nat} {cs : List Value} {T : TypeId}
theorem Blk.lt (h : Blk w b cs T) : b < w.heap.size := (Array.getElem?_eq_some_iff.1 h).1
theorem Blk.of_block {w' : World} (h : Blk w b cs T) (hb : w'.heap[b]? = w.heap[b]?) : Blk w' b cs T := hb.trans h
theorem Blk.cell (h : Blk w b cs T) (i : Nat) {v : Value} (hv : cs[i]? = some v) : w.cell? ⟨b, i, none⟩ = some v := by
  unfold Blk at h
  simp [World.cell?, h, hv]
theorem Blk.frozen (h : Blk w b cs T) (i : Nat) : w.frozen? ⟨b, i, none⟩ = false := by
  unfold Blk at h
  simp [World.frozen?, h]
theorem Blk.set (h : Blk w b cs T) (i : Nat) (u : Value) : Blk (w.setCell ⟨b, i, none⟩ u) b (cs.set i u) T := by
  have hlt := h.lt
  have h' : w.heap[b] = .cells cs.toArray T (0, 0) := (Array.getElem?_eq_some_iff.1 h).2
  show (w.heap.modify b _)[b]? = _
  rw [Array.getElem?_eq_getElem (by simpa using hlt), Array.getElem_modify_self, h']
  simp
theorem Blk.set_other (h : Blk w b cs T) {a : Addr} (ha : b ≠ a.block) (u : Value) : Blk (w.setCell a u) b cs T := h.of_block (Below.heap_setCell w a u b ha)
theorem Blk.made (w : World) (cs : List Value) (T : TypeId) : Blk (w.alloc (.cells cs.toArray T)) w.heap.size cs T := heap_alloc_new w _
theorem Blk.made' (w : World) (cs : Array Value) (T : TypeId) : Blk (w.alloc (.cells cs T)) w.heap.size cs.toList T := heap_alloc_new w _
theorem Blk.at_ (w : World) (cs : List Value) (T : TypeId) {b : Nat} (hb : b = w.heap.size) : Blk (w.alloc (.cells cs.toArray T)) b cs T := by subst hb; exact heap_alloc_new w _
theorem Blk.alloc (h : Blk w b cs T) (o : Obj) : Blk (w.alloc o) b cs T := h.of_block (Below.heap_alloc w o b h.lt)
theorem Blk.below {w' : World} {B : Nat} (h : Blk w b cs T) (hb : Below B w w') (hB : b < B) : Blk w' b cs T := h.of_block (hb.block b hB)
theorem Blk.fr {w' : World} {S : List Nat} (h : Blk w b cs T) (f : Fr S w w') (hs : b ∉ S) : Blk w' b cs T := h.of_block (f.block b h.lt hs)
theorem Blk.grown {w' : World} {row : Option Nat} (h : Blk w b cs T) (g : w.grownBy w' row) (hr : some b ≠ row) : Blk w' b cs T := h.of_block (g.block b h.lt hr)
end

/-- What the laws on maps use of a kind of keys. -/
structure KeyOK {α : Type} (P : Program) (K : TypeId) (ek : α → Value) : Prop where
  check : ∀ (w : World) (e : Bool) (a : α), (Instr.checkKey e 10000 K (ek a)).run P w = .ok () w
  find : ∀ (w : World) (a : α) (es : List MapEntry), (∀ e ∈ es, ∃ x, e.key = ek x) →
    ((Instr.findKey K (ek a) es).run P w = .ok none w ∧ ∀ e ∈ es, e.key ≠ ek a) ∨ ∃ (j : Nat) (e : MapEntry), (Instr.findKey K (ek a) es).run P w = .ok (some (j, e.val)) w ∧ es[j]? = some e ∧ e.key = ek a
  stays : ∀ (w : World) (a : α), (Instr.keyThatStays (ek a) (ek a)).run P w = .ok (ek a) w
  inj : ∀ (a b : α), ek a = ek b → a = b

section
variable {α β : Type} {P : Program} {K : TypeId} {ek : α → Value} {ev : β → Value} {w : World} {b : Nat} {m : List (α × β)}

def kvOf (e : MapEntry) : Value × Value := (e.key, e.val)
def encKV (ek : α → Value) (ev : β → Value) (p : α × β) : Value × Value := (ek p.1, ev p.2)

/-- Block b is a map that holds just these keys, each once, with these values. -/
def MapAt (ek : α → Value) (ev : β → Value) (w : World) (b : Nat) (m : List (α × β)) : Prop :=
  ∃ es clock, w.heap[b]? = some (.map es clock) ∧ Stamped es clock ∧ (es.toList.map kvOf).Perm (m.map (encKV ek ev)) ∧ (m.map Prod.fst).Nodup

theorem MapAt.lt (h : MapAt ek ev w b m) : b < w.heap.size := by
  obtain ⟨es, clock, hb, _⟩ := h
  exact (Array.getElem?_eq_some_iff.1 hb).1
theorem MapAt.of_block {w' : World} (h : MapAt ek ev w b m) (hb : w'.heap[b]? = w.heap[b]?) : MapAt ek ev w' b m := by
  obtain ⟨es, clock, h1, r⟩ := h
  exact ⟨es, clock, hb.trans h1, r⟩
theorem MapAt.fr {S : List Nat} {w' : World} (h : MapAt ek ev w b m) (f : Fr S w w') (hs : b ∉ S) : MapAt ek ev w' b m := h.of_block (f.block b h.lt hs)
theorem MapAt.alloc (h : MapAt ek ev w b m) (o : Obj) : MapAt ek ev (w.alloc o) b m := h.of_block (Below.heap_alloc w o b h.lt)
theorem MapAt.below {w' : World} {B : Nat} (h : MapAt ek ev w b m) (hb : Below B w w') (hB : b < B) : MapAt ek ev w' b m := h.of_block (hb.block b hB)
theorem MapAt.set_other (h : MapAt ek ev w b m) {a : Addr} (ha : b ≠ a.block) (u : Value) : MapAt ek ev (w.setCell a u) b m := h.of_block (Below.heap_setCell w a u b ha)
theorem MapAt.drew (h : MapAt ek ev w b m) : MapAt ek ev w.drew b m := h.of_block rfl
theorem MapAt.nodup (h : MapAt ek ev w b m) : (m.map Prod.fst).Nodup := by obtain ⟨_, _, _, _, _, h⟩ := h; exact h
theorem MapAt.perm {m' : List (α × β)} (h : MapAt ek ev w b m) (hp : m.Perm m') : MapAt ek ev w b m' := by
  obtain ⟨es, clock, h1, h2, h3, h4⟩ := h
  exact ⟨es, clock, h1, h2, h3.trans (hp.map _), (hp.map _).nodup_iff.1 h4⟩
theorem MapAt.made (w : World) (ek : α → Value) (ev : β → Value) : MapAt ek ev (w.alloc (.map #[] 0)) w.heap.size [] :=
  ⟨#[], 0, (MapKept.heap_alloc w _).1, stamped_empty 0, by simp, by simp⟩

theorem kv_mem {es : Array MapEntry} (hp : (es.toList.map kvOf).Perm (m.map (encKV ek ev))) {e : MapEntry} (he : e ∈ es.toList) : ∃ p ∈ m, e.key = ek p.1 ∧ e.val = ev p.2 := by
  have h1 : kvOf e ∈ m.map (encKV ek ev) := hp.mem_iff.1 (List.mem_map.2 ⟨e, he, rfl⟩)
  obtain ⟨p, hm, h2⟩ := List.mem_map.1 h1
  simp only [kvOf, encKV, Prod.mk.injEq] at h2
  exact ⟨p, hm, h2.1.symm, h2.2.symm⟩
theorem kv_mem' {es : Array MapEntry} (hp : (es.toList.map kvOf).Perm (m.map (encKV ek ev))) {p : α × β} (h : p ∈ m) : ∃ e ∈ es.toList, e.key = ek p.1 ∧ e.val = ev p.2 := by
  have h1 : encKV ek ev p ∈ es.toList.map kvOf := hp.mem_iff.2 (List.mem_map.2 ⟨p, h, rfl⟩)
  obtain ⟨e, hm, h2⟩ := List.mem_map.1 h1
  simp only [kvOf, encKV, Prod.mk.injEq] at h2
  exact ⟨e, hm, h2.1, h2.2⟩

theorem lookup_of_mem [DecidableEq α] : ∀ {m : List (α × β)}, (m.map Prod.fst).Nodup → ∀ {p : α × β}, p ∈ m → m.lookup p.1 = some p.2
  | [], _, _, h => by simp at h
  | q :: m, hn, p, h => by
    obtain ⟨k, v⟩ := q
    simp only [List.map_cons, List.nodup_cons] at hn
    rcases List.mem_cons.1 h with rfl | h1
    · simp
    · have hne : p.1 ≠ k := fun e => hn.1 (List.mem_map.2 ⟨p, h1, e⟩)
      rw [List.lookup_cons, show (p.1 == k) = false by simpa using hne]
      exact lookup_of_mem hn.2 h1
theorem lookup_none [DecidableEq α] : ∀ {m : List (α × β)} {a : α}, (∀ p ∈ m, p.1 ≠ a) → m.lookup a = none
  | [], _, _ => rfl
  | q :: m, a, h => by
    obtain ⟨k, v⟩ := q
    have hne : (a == k) = false := by simpa using fun e : a = k => h (k, v) (by simp) e.symm
    rw [List.lookup_cons, hne]
    exact lookup_none (fun p hp => h p (by simp [hp]))

/-- 'm[k]' and 'v, ok := m[k]'. -/
theorem MapAt.lookup [DecidableEq α] (h : MapAt ek ev w b m) (hk : KeyOK P K ek) {T E : TypeId} (hT : P.underlying T = some (.map K E)) {z : Value} (hz : (zeroValue E).run P w = .ok z w) (a : α) (c : Bool) :
    (Instr.lookup T (.map (some b)) (ek a) c).run P w =
      .ok (if c then .tuple #[((m.lookup a).map ev).getD z, .bool (m.lookup a).isSome] else ((m.lookup a).map ev).getD z) w := by
  obtain ⟨es, clock, hb, hs, hp, hn⟩ := h
  have hkeys : ∀ e ∈ es.toList, ∃ x, e.key = ek x := fun e he => by obtain ⟨p, _, h1, _⟩ := kv_mem hp he; exact ⟨p.1, h1⟩
  rcases hk.find w a es.toList hkeys with ⟨h1, h2⟩ | ⟨j, e, h1, h2, h3⟩
  · have hl : m.lookup a = none := lookup_none (fun p hpm e1 => by
      obtain ⟨x, hx, h4, _⟩ := kv_mem' hp hpm
      exact h2 x hx (by rw [h4, e1]))
    simp [Instr.lookup, run_underlying hT, MapKept.run_getObj_map hb, hk.check, h1, hz, Result.andThen, hl]
  · obtain ⟨p, hpm, h4, h5⟩ := kv_mem hp (List.mem_of_getElem? h2)
    have ha : p.1 = a := hk.inj _ _ (h4.symm.trans h3)
    have hl : m.lookup a = some p.2 := ha ▸ lookup_of_mem hn hpm
    simp [Instr.lookup, run_underlying hT, MapKept.run_getObj_map hb, hk.check, h1, Result.andThen, hl, h5]

/-- The entries behind 'm[k] = v'. -/
def putKV [DecidableEq α] (a : α) (v : β) (m : List (α × β)) : List (α × β) := (a, v) :: m.filter (fun p => p.1 ≠ a)

theorem perm_modify {es : List MapEntry} {j : Nat} {e : MapEntry} (h : es[j]? = some e) (f : MapEntry → Value × Value) (x : MapEntry) : ((es.set j x).map f).Perm (f x :: (es.eraseIdx j).map f) := by
  have hj : j < es.length := (List.getElem?_eq_some_iff.1 h).1
  simpa using (ChangeMaps.set_perm es j hj x).map f

/-- 'm[k] = v'. -/
theorem MapAt.update [DecidableEq α] (h : MapAt ek ev w b m) (hk : KeyOK P K ek) {T E : TypeId} (hT : P.underlying T = some (.map K E)) (a : α) (v : β) :
    ∃ w', (Instr.mapUpdate T (.map (some b)) (ek a) (ev v)).run P w = .ok () w' ∧ MapAt ek ev w' b (putKV a v m) ∧ w.grownBy w' (some b) ∧ w'.heap.size = w.heap.size := by
  obtain ⟨es, clock, hb, hs, hp, hn⟩ := h
  have hkeys : ∀ e ∈ es.toList, ∃ x, e.key = ek x := fun e he => by obtain ⟨p, _, h1, _⟩ := kv_mem hp he; exact ⟨p.1, h1⟩
  have hnod : ((putKV a v m).map Prod.fst).Nodup := by
    simp only [putKV, List.map_cons, List.nodup_cons]
    exact ⟨by simp, hn.sublist ((List.filter_sublist).map _)⟩
  have hgrown : ∀ o, w.grownBy (setBlock w b o) (some b) := fun o => ⟨rfl, rfl, rfl, by simp [setBlock], fun i _ hi => heap_setBlock_other hb _ (fun e => hi (by rw [e]))⟩
  rcases hk.find w a es.toList hkeys with ⟨h1, h2⟩ | ⟨j, e, h1, h2, h3⟩
  · refine ⟨setBlock w b (.map (es.push ⟨ek a, ev v, clock⟩) (clock + 1)), ?_, ⟨_, _, heap_setBlock_same hb _, stamped_push hs h2, ?_, hnod⟩, hgrown _, by simp [setBlock]⟩
    · simp [Instr.mapUpdate, run_underlying hT, MapKept.run_getObj_map hb, hk.check, h1, MapKept.run_setObj_map _ hb, Result.andThen, setBlock]
    · have hf : m.filter (fun p => p.1 ≠ a) = m := List.filter_eq_self.2 (fun p hpm => by
        obtain ⟨x, hx, h4, _⟩ := kv_mem' hp hpm
        have : p.1 ≠ a := fun e => h2 x hx (by rw [h4, e])
        simpa using this)
      simp only [putKV, hf, Array.toList_push, List.map_append, List.map_cons, List.map_nil]
      exact (List.perm_append_singleton _ _).trans (List.Perm.cons _ hp)
  · have hj : es[j]? = some e := by simpa using h2
    have hjl : j < es.toList.length := (List.getElem?_eq_some_iff.1 h2).1
    have hlist : (es.modify j (fun e' => { e' with key := ek a, val := ev v })).toList = es.toList.set j { e with key := ek a, val := ev v } := by
      rw [Array.toList_modify, ChangeMaps.modify_eq_set _ _ _ _ h2]
    refine ⟨setBlock w b (.map (es.modify j (fun e' => { e' with key := ek a, val := ev v })) clock), ?_, ⟨_, _, heap_setBlock_same hb _, ?_, ?_, hnod⟩, hgrown _, by simp [setBlock]⟩
    · simp [Instr.mapUpdate, run_underlying hT, MapKept.run_getObj_map hb, hk.check, h1, hj, h3, hk.stays, MapKept.run_setObj_map _ hb, Result.andThen, setBlock]
    · exact stamped_modify hs _ _ (fun _ _ => rfl) (fun e' _ he' => by rw [hj] at he'; cases he'; exact h3.symm)
    · rw [hlist]
      refine (perm_modify h2 kvOf _).trans ?_
      obtain ⟨p, hpm, h4, h5⟩ := kv_mem hp (List.mem_of_getElem? h2)
      have ha : p.1 = a := hk.inj _ _ (h4.symm.trans h3)
      -- m is p and the others
      have hmp : m.Perm (p :: m.filter (fun q => q.1 ≠ a)) := by
        clear hp hnod hkeys h1 h2 h3 hlist hj hjl hb hs hgrown
        induction m with
        | nil => simp at hpm
        | cons q m ih =>
          simp only [List.map_cons, List.nodup_cons] at hn
          rcases List.mem_cons.1 hpm with rfl | hm
          · have hf : m.filter (fun q => q.1 ≠ a) = m := List.filter_eq_self.2 (fun q hq => by
              have : q.1 ≠ a := fun e => hn.1 (List.mem_map.2 ⟨q, hq, by rw [e, ha]⟩)
              simpa using this)
            rw [List.filter_cons_of_neg (by simp [ha]), hf]
          · have hq : q.1 ≠ a := fun e => hn.1 (List.mem_map.2 ⟨p, hm, by rw [ha, e]⟩)
            rw [List.filter_cons_of_pos (by simpa using hq)]
            exact ((ih hn.2 hm).cons q).trans (List.Perm.swap _ _ _)
      have h6 : (kvOf e :: (es.toList.eraseIdx j).map kvOf).Perm (m.map (encKV ek ev)) := by
        refine List.Perm.trans ?_ hp
        have h7 := (ChangeMaps.set_perm es.toList j hjl e).map kvOf
        have h11 : es.toList.set j e = es.toList := by rw [← (List.getElem?_eq_some_iff.1 h2).2]; exact List.set_getElem_self hjl
        rw [h11] at h7
        simpa using h7.symm
      have h8 : kvOf e = encKV ek ev p := by simp [kvOf, encKV, h4, h5]
      have h9 := h6.trans (hmp.map (encKV ek ev))
      rw [h8, List.map_cons] at h9
      simp only [putKV, List.map_cons]
      have h10 := List.Perm.cons_inv h9
      exact List.Perm.cons _ h10

/-- 'm[k] = v' at the operation, for the walk. -/
theorem wpList_put [DecidableEq α] {ops : Array Oper} {rest : List Oper} {o : Oper} {a : Act} {Q : Exit → Act → World → Prop} (hg : o.guard = none) (mo x v : Operand) (t E : TypeId) (hop : o.op = Op.mapUpdate t mo x v)
    (hT : P.underlying t = some (.map K E)) (hk : KeyOK P K ek) (hm : a.eval mo = .map (some b)) (h : MapAt ek ev w b m) (s : α) (y : β) (hx : a.eval x = ek s) (hv : a.eval v = ev y)
    (hK : ∀ w', MapAt ek ev w' b (putKV s y m) → w.grownBy w' (some b) → w'.heap.size = w.heap.size → wpList P ops Q rest (a.put o.dst undef) w') : wpList P ops Q (o :: rest) a w := by
  refine wpList_plain hg fun K' hK' => ?_
  obtain ⟨w', hrun, r1, r2, r3⟩ := h.update hk hT s y
  unfold Oper.wp
  simp [execOp, hop, hm, hx, hv, hrun, Result.andThen]
  exact hK' _ _ (hK w' r1 r2 r3)

/-- 'clear(m)'. -/
theorem MapAt.clear (h : MapAt ek ev w b m) {T E : TypeId} (hT : P.underlying T = some (.map K E)) (ty : TypeId) :
    ∃ w', (Builtin.clear_ #[T] ty #[.map (some b)]).run P w = .ok (.tuple #[]) w' ∧ MapAt ek ev w' b [] ∧ w.grownBy w' (some b) ∧ w'.heap.size = w.heap.size := by
  obtain ⟨es, clock, hb, hs, hp, hn⟩ := h
  refine ⟨setBlock w b (.map #[] clock), ?_, ⟨_, _, heap_setBlock_same hb _, stamped_empty _, by simp, by simp⟩, ⟨rfl, rfl, rfl, by simp [setBlock], fun i _ hi => heap_setBlock_other hb _ (fun e => hi (by rw [e]))⟩, by simp [setBlock]⟩
  simp [Builtin.clear_, run_underlying hT, MapKept.run_getObj_map hb, MapKept.run_setObj_map _ hb, Result.andThen, setBlock]
theorem MapAt.len (h : MapAt ek ev w b m) {T E : TypeId} (hT : P.underlying T = some (.map K E)) (ty : TypeId) :
    (Builtin.len_ #[T] ty #[.map (some b)]).run P w = .ok (.int .i64 m.length) w := by
  obtain ⟨es, clock, hb, hs, hp, hn⟩ := h
  have hl : es.size = m.length := by simpa using hp.length_eq
  simp [Builtin.len_, run_underlying hT, MapKept.run_getObj_map hb, Result.andThen, goInt, hl]
end
end Go.Proofs.YteghkajegdcbjaaDoor
