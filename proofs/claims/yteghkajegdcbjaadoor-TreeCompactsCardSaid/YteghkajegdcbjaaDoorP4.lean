/-
  Plain data: a tree's operations put among the others, and made so for good.
-/
import Derived.Test.YteghkajegdcbjaaDoorP2
import Derived.Test.YteghkajegdcbjaaDoorP3
import Derived.Test.YteghkajegdcbjaaDoorT18
namespace Go.Proofs.YteghkajegdcbjaaDoor
open Go.RowKit

/-- An operation among the others. -/
def insO (l : List Opn) (o : Opn) : List Opn := l.takeWhile (fun x => x.at_.lt o.at_) ++ o :: l.dropWhile (fun x => x.at_.lt o.at_)
def applyN (T : Tr) (o : Opn) : Tr × Int :=
  if okOp o = false ∨ T.base.lt o.at_ = false then (T, 1)
  else if thereO T.ops o.at_ = true then (T, 0)
  else if fullP T o.kind = true then (T, 2)
  else ({ T with now := foldN T.fixed (insO T.ops o), ops := insO T.ops o }, 0)
/-- How many operations stand up to a stamp. -/
def uptoN (l : List Opn) (s : St) : Nat := (l.takeWhile (fun x => !s.lt x.at_)).length
def compactN (T : Tr) (s : St) : Tr × Nat :=
  if s.may = false then (T, 0)
  else ({ T with fixed := foldN T.fixed (T.ops.take (uptoN T.ops s)), ops := T.ops.drop (uptoN T.ops s), base := if T.base.lt s = true then s else T.base }, uptoN T.ops s)

structure Inv (T : Tr) : Prop where
  now : T.now = foldN T.fixed T.ops
  rise : RisingO T.ops
  wf : Wf T.fixed
  few : T.ops.length ≤ 512
  room : T.fixed.length + creates T.ops ≤ 512

theorem wf_fold {l : List Nd} (h : Wf l) : ∀ (ops : List Opn), Wf (foldN l ops) := by
  intro ops
  induction ops generalizing l with
  | nil => exact h
  | cons o r ih => exact ih (wf_do h o)
theorem foldN_app (l : List Nd) (a b : List Opn) : foldN l (a ++ b) = foldN (foldN l a) b := by simp [foldN]
theorem putN_len : ∀ (n : Nd) (l : List Nd), (putN n l).length ≤ l.length + 1
  | n, [] => by simp [putN]
  | n, x :: r => by
    have := putN_len n r
    unfold putN
    repeat' split
    all_goals simp
    all_goals omega
theorem putN_len_there : ∀ {l : List Nd} {n : Nd} {x : Nd}, Rising l → findN l n.id = some x → (putN n l).length = l.length := by
  intro l n x hr hf
  have h1 : (putN n l).map Nd.id = l.map Nd.id := by
    induction l with
    | nil => simp [findN] at hf
    | cons y r ih =>
      have hy := (List.pairwise_cons.1 hr).1
      unfold putN
      by_cases hyn : y.id = n.id
      · simp [hyn, lt_irrefl]
      · have hf' : findN r n.id = some x := by simpa [findN, hyn] using hf
        have hm := hy x (findN_mem hf')
        rw [findN_id hf'] at hm
        simp [lt_asymm hm, hyn, ih (List.pairwise_cons.1 hr).2 hf']
  have := congrArg List.length h1
  simpa using this
theorem doN_len {l : List Nd} (hr : Rising l) (o : Opn) : (doN l o).length ≤ l.length + if o.kind = 1 then 1 else 0 := by
  unfold doN
  extract_lets k p
  cases hf : findN l o.nd with
  | none =>
    simp only
    split
    · rename_i hc
      have : o.kind = 1 := by
        have h1 := hc.1
        simp only [k] at h1
        split at h1
        · cases h1
        · exact h1
      rw [if_pos this]
      exact putN_len _ _
    · omega
  | some x =>
    have hid := findN_id hf
    have same : ∀ y : Nd, y.id = x.id → (putN y l).length ≤ l.length := fun y hy => by
      rw [putN_len_there (x := x) hr (by rw [hy, hid, hf])]
      exact Nat.le_refl _
    simp only
    repeat' split
    all_goals first | omega | exact Nat.le_trans (same _ rfl) (Nat.le_add_right _ _)
theorem creates_cons (o : Opn) (l : List Opn) : creates (o :: l) = creates l + if o.kind = 1 then 1 else 0 := by
  unfold creates
  by_cases h : o.kind = 1 <;> simp [h]
theorem foldN_len {l : List Nd} (h : Wf l) : ∀ (ops : List Opn), (foldN l ops).length ≤ l.length + creates ops := by
  intro ops
  induction ops generalizing l with
  | nil => simp [foldN, creates]
  | cons o r ih =>
    have h1 := ih (wf_do h o)
    have h2 := doN_len h.rise o
    rw [creates_cons]
    have h3 : foldN l (o :: r) = foldN (doN l o) r := rfl
    rw [h3]
    omega
theorem creates_app (a b : List Opn) : creates (a ++ b) = creates a + creates b := by simp [creates]
theorem insO_len (l : List Opn) (o : Opn) : (insO l o).length = l.length + 1 := by
  have h1 := congrArg List.length (List.takeWhile_append_dropWhile (p := fun x : Opn => x.at_.lt o.at_) (l := l))
  simp only [List.length_append] at h1
  simp [insO]
  omega
theorem creates_ins (l : List Opn) (o : Opn) : creates (insO l o) = creates l + if o.kind = 1 then 1 else 0 := by
  have h1 := congrArg creates (List.takeWhile_append_dropWhile (p := fun x : Opn => x.at_.lt o.at_) (l := l))
  rw [creates_app] at h1
  rw [insO, creates_app, creates_cons]
  omega
theorem takeWhile_parts {l : List Opn} {s : St} {k : Nat} (h : Parts l s k) : l.takeWhile (fun x => x.at_.lt s) = l.take k ∧ l.dropWhile (fun x => x.at_.lt s) = l.drop k := by
  obtain ⟨h1, h2, h3⟩ := h
  have e1 : ∀ x ∈ l.take k, x.at_.lt s = true := fun x hx => by
    obtain ⟨j, hj, rfl⟩ := List.getElem_of_mem hx
    rw [List.getElem_take]
    exact h2 j (by simp at hj; omega) (by simp at hj; omega)
  have e2 : ∀ x, (l.drop k).head? = some x → x.at_.lt s = false := fun x hx => by
    rw [List.head?_drop] at hx
    obtain ⟨hlt, rfl⟩ := List.getElem?_eq_some_iff.1 hx
    exact h3 k hlt (Nat.le_refl _)
  have e3 : l = l.take k ++ l.drop k := (List.take_append_drop k l).symm
  have e4 : (l.drop k).takeWhile (fun x => x.at_.lt s) = [] ∧ (l.drop k).dropWhile (fun x => x.at_.lt s) = l.drop k := by
    cases hd : l.drop k with
    | nil => simp
    | cons x r =>
      have := e2 x (by rw [hd]; rfl)
      simp [this]
  constructor
  · conv => lhs; rw [e3]
    rw [List.takeWhile_append_of_pos e1, e4.1, List.append_nil]
  · conv => lhs; rw [e3]
    rw [List.dropWhile_append_of_pos e1, e4.2]
theorem insO_parts {l : List Opn} {o : Opn} {k : Nat} (h : Parts l o.at_ k) : insO l o = l.take k ++ o :: l.drop k := by
  have := takeWhile_parts h
  rw [insO, this.1, this.2]
theorem insO_rise {l : List Opn} {o : Opn} {k : Nat} (hr : RisingO l) (h : Parts l o.at_ k) (hth : thereO l o.at_ = false) : RisingO (insO l o) := by
  rw [insO_parts h]
  obtain ⟨h1, h2, h3⟩ := h
  refine List.pairwise_append.2 ⟨hr.sublist (List.take_sublist _ _), List.pairwise_cons.2 ⟨fun y hy => ?_, hr.sublist (List.drop_sublist _ _)⟩, fun x hx y hy => ?_⟩
  · obtain ⟨j, hj, rfl⟩ := List.getElem_of_mem hy
    simp only [List.getElem_drop]
    have hj' : k + j < l.length := by simp at hj; omega
    have h4 := h3 (k + j) hj' (by omega)
    cases h5 : o.at_.lt l[k + j].at_
    · have h6 := lt_total h4 h5
      have : thereO l o.at_ = true := decide_eq_true (List.mem_map.2 ⟨_, List.getElem_mem hj', h6⟩)
      rw [hth] at this; cases this
    · rfl
  · obtain ⟨i, hi, rfl⟩ := List.getElem_of_mem hx
    have hi' : i < k := by simp at hi; omega
    have h4 := h2 i (by omega) hi'
    rw [List.getElem_take]
    rcases List.mem_cons.1 hy with rfl | hy
    · exact h4
    · obtain ⟨j, hj, rfl⟩ := List.getElem_of_mem hy
      rw [List.getElem_drop]
      exact List.pairwise_iff_getElem.1 hr i (k + j) (by omega) (by simp at hj; omega) (by omega)
theorem parts_of : ∀ {l : List Opn} (_ : RisingO l) (s : St), ∃ k, Parts l s k
  | [], _, s => ⟨0, Nat.le_refl _, fun j hj => absurd hj (by simp), fun j hj => absurd hj (by simp)⟩
  | x :: r, hr, s => by
    have hx := (List.pairwise_cons.1 hr).1
    cases hl : x.at_.lt s
    · refine ⟨0, Nat.zero_le _, fun j _ h => absurd h (by omega), fun j hj _ => ?_⟩
      cases j with
      | zero => exact hl
      | succ j =>
        have hj' : j < r.length := by simpa using hj
        have h1 := hx r[j] (List.getElem_mem _)
        cases h2 : r[j].at_.lt s
        · exact h2
        · rw [lt_trans h1 h2] at hl; cases hl
    · obtain ⟨k, h1, h2, h3⟩ := parts_of (List.pairwise_cons.1 hr).2 s
      refine ⟨k + 1, by simp; omega, fun j hj hk => ?_, fun j hj hk => ?_⟩
      · cases j with
        | zero => exact hl
        | succ j => exact h2 j (by simpa using hj) (by omega)
      · cases j with
        | zero => omega
        | succ j => exact h3 j (by simpa using hj) (by omega)
theorem inv_apply {T : Tr} (h : Inv T) (o : Opn) : Inv (applyN T o).1 := by
  unfold applyN
  split
  · exact h
  · split
    · exact h
    · rename_i hth
      split
      · exact h
      · rename_i hfull
        obtain ⟨k, hk⟩ := parts_of h.rise o.at_
        have hf : T.ops.length < 512 ∧ (o.kind = 1 → T.fixed.length + creates T.ops < 512) := by
          simp only [fullP, Bool.or_eq_true, decide_eq_true_eq, Bool.and_eq_true, beq_iff_eq, not_or, not_and] at hfull
          exact ⟨by omega, fun e => by have := hfull.2 e; omega⟩
        refine ⟨rfl, insO_rise h.rise hk (by simpa using hth), h.wf, ?_, ?_⟩
        · simp only [insO_len]; omega
        · simp only [creates_ins]
          have := h.room
          split
          · have := hf.2 (by assumption); omega
          · omega
theorem inv_compact {T : Tr} (h : Inv T) (s : St) : Inv (compactN T s).1 := by
  unfold compactN
  split
  · exact h
  · have hc := creates_app (T.ops.take (uptoN T.ops s)) (T.ops.drop (uptoN T.ops s))
    rw [List.take_append_drop] at hc
    have hl := foldN_len h.wf (T.ops.take (uptoN T.ops s))
    refine ⟨?_, h.rise.sublist (List.drop_sublist _ _), wf_fold h.wf _, ?_, ?_⟩
    · simp only
      rw [← foldN_app, List.take_append_drop]
      exact h.now
    · have := h.few
      simp
      omega
    · have := h.room
      simp only
      omega
theorem inv_new : Inv Tr.new where
  now := rfl
  rise := List.Pairwise.nil
  wf := wf_nil
  few := by simp [Tr.new]
  room := by simp [Tr.new, creates]
end Go.Proofs.YteghkajegdcbjaaDoor
