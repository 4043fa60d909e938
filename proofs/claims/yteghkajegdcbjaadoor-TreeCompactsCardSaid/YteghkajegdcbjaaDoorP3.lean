/-
  Plain data: nodes whose parents lead to the root, or the trash, keep doing so.
-/
import Derived.Test.YteghkajegdcbjaaDoorP1
namespace Go.Proofs.YteghkajegdcbjaaDoor
open Go.RowKit

def upN (l : List Nd) (s : St) : St := (getNd (kvN l) s).par
inductive Reach (l : List Nd) : St → Prop
  | out (s : St) : s.outer = true → Reach l s
  | up (s : St) : Reach l (upN l s) → Reach l s
/-- Nodes whose parents are there, and lead to the root, or the trash. -/
structure Wf (l : List Nd) : Prop where
  rise : Rising l
  closed : ∀ x ∈ l, hasN l x.par = true
  reach : ∀ s, Reach l s

def Chain (l : List Nd) : St → List St → Prop
  | s, [] => s.outer = true ∨ (findN l s).isNone = true
  | s, x :: q => x = s ∧ (findN l s).isSome = true ∧ Chain l (upN l s) q
theorem chain_mem {l : List Nd} : ∀ {q : List St} {s x : St}, Chain l s q → x ∈ q → ∃ q', Chain l x q' ∧ q' <:+ q
  | [], _, _, _, h => by simp at h
  | y :: q, s, x, hc, h => by
    obtain ⟨rfl, h1, h2⟩ := hc
    rcases List.mem_cons.1 h with rfl | h
    · exact ⟨x :: q, ⟨rfl, h1, h2⟩, List.suffix_refl _⟩
    · obtain ⟨q', h3, h4⟩ := chain_mem h2 h
      exact ⟨q', h3, h4.trans (List.suffix_cons _ _)⟩
theorem reach_path {l : List Nd} {s : St} (h : Reach l s) : ∃ q, Chain l s q ∧ q.Nodup := by
  induction h with
  | out s h => exact ⟨[], Or.inl h, List.nodup_nil⟩
  | up s _ ih =>
    obtain ⟨q, h1, h2⟩ := ih
    cases hf : findN l s with
    | none => exact ⟨[], Or.inr (by rw [hf]; rfl), List.nodup_nil⟩
    | some x =>
      have hc : Chain l s (s :: q) := ⟨rfl, by rw [hf]; rfl, h1⟩
      by_cases hm : s ∈ q
      · obtain ⟨q', h3, h4⟩ := chain_mem h1 hm
        exact ⟨q', h3, h2.sublist h4.sublist⟩
      · exact ⟨s :: q, hc, List.nodup_cons.2 ⟨hm, h2⟩⟩
theorem chain_below {l : List Nd} (id : St) : ∀ {q : List St} {s : St} (n : Nat), Chain l s q → q.length + 2 ≤ n → (belowF (kvN l) id n s).isSome = true
  | [], s, n, hc, hn => by
    obtain ⟨m, rfl⟩ : ∃ m, n = m + 2 := ⟨n - 2, by simp at hn; omega⟩
    simp only [belowF]
    by_cases h1 : outerP s.t s.u = true
    · simp [h1]
    · have h3 : findN l s = none := by
        rcases hc with h | h
        · exact absurd h h1
        · simpa using h
      have h4 : getNd (kvN l) s = Nd.zero := by simp [getNd, lookup_kvN, h3]
      rw [if_neg h1, h4]
      by_cases h2 : s = id
      · simp [h2]
      · rw [if_neg h2]
        simp [Nd.zero, outerP]
  | x :: q, s, n, hc, hn => by
    obtain ⟨rfl, h1, h2⟩ := hc
    obtain ⟨m, rfl⟩ : ∃ m, n = m + 1 := ⟨n - 1, by simp at hn; omega⟩
    simp only [belowF]
    by_cases h3 : outerP x.t x.u = true
    · simp [h3]
    · rw [if_neg h3]
      by_cases h4 : x = id
      · simp [h4]
      · rw [if_neg h4]
        exact chain_below id m h2 (by simp at hn; omega)
theorem chain_ids {l : List Nd} : ∀ {q : List St} {s : St}, Chain l s q → ∀ x ∈ q, x ∈ l.map Nd.id
  | [], _, _, x, h => by simp at h
  | y :: q, s, hc, x, h => by
    obtain ⟨rfl, h1, h2⟩ := hc
    rcases List.mem_cons.1 h with rfl | h
    · obtain ⟨n, hn⟩ := Option.isSome_iff_exists.1 h1
      exact List.mem_map.2 ⟨n, findN_mem hn, findN_id hn⟩
    · exact chain_ids h2 x h
theorem nodup_le {α : Type} [DecidableEq α] : ∀ {q m : List α}, q.Nodup → (∀ x ∈ q, x ∈ m) → q.length ≤ m.length
  | [], _, _, _ => Nat.zero_le _
  | x :: q, m, h, hm => by
    have h1 := List.nodup_cons.1 h
    have hx := hm x (by simp)
    have h2 : ∀ y ∈ q, y ∈ m.erase x := fun y hy => (List.mem_erase_of_ne (fun e => h1.1 (by rw [← e]; exact hy))).2 (hm y (by simp [hy]))
    have h3 := nodup_le h1.2 h2
    have h4 : 0 < m.length := List.length_pos_of_mem hx
    rw [List.length_erase_of_mem hx] at h3
    simp only [List.length_cons]
    omega
theorem Wf.rooted {l : List Nd} (h : Wf l) : Rooted l := fun s id => by
  obtain ⟨q, h1, h2⟩ := reach_path (h.reach s)
  have := nodup_le h2 (chain_ids h1)
  exact chain_below id _ h1 (by simpa using this)

theorem findN_putN : ∀ {l : List Nd} (_ : Rising l) (n : Nd) (s : St), findN (putN n l) s = if s = n.id then some n else findN l s
  | [], _, n, s => by
    by_cases h : s = n.id
    · simp [putN, findN, h]
    · simp [putN, findN, h, Ne.symm h]
  | x :: r, hr, n, s => by
    have hx := (List.pairwise_cons.1 hr).1
    have ih := findN_putN (List.pairwise_cons.1 hr).2 n s
    unfold putN
    split
    · by_cases h : s = n.id
      · simp [findN, h]
      · simp [findN, h, Ne.symm h]
    · split
      · rename_i h1 h2
        by_cases h : s = n.id
        · simp [findN, h]
        · have h3 : ¬ x.id = s := fun e => h (by rw [← e, h2])
          simp [findN, h, Ne.symm h, h3]
      · rename_i h1 h2
        by_cases h3 : x.id = s
        · have h4 : ¬ s = n.id := fun e => h2 (by rw [h3, e])
          simp [findN, h3, h4]
        · simp only [findN, List.find?_cons] at ih ⊢
          simp [h3, ih]
theorem reach_put {l : List Nd} (hr : Rising l) (n : Nd) (h : ∀ s, Reach l s) (hn : Reach (putN n l) n.par) : ∀ s, Reach (putN n l) s := by
  intro s
  induction h s with
  | out s h => exact .out s h
  | up s _ ih =>
    refine .up s ?_
    by_cases e : s = n.id
    · have : upN (putN n l) s = n.par := by simp [upN, getNd, lookup_kvN, findN_putN hr, e]
      rw [this]; exact hn
    · have : upN (putN n l) s = upN l s := by simp [upN, getNd, lookup_kvN, findN_putN hr, e]
      rw [this]; exact ih
theorem hasN_put {l : List Nd} (hr : Rising l) (n : Nd) (s : St) (h : hasN l s = true) : hasN (putN n l) s = true := by
  simp only [hasN, Bool.or_eq_true] at *
  rw [findN_putN hr]
  by_cases e : s = n.id
  · simp [e]
  · simpa [e] using h
theorem wf_put {l : List Nd} (h : Wf l) (n : Nd) (hp : hasN l n.par = true) (hn : Reach (putN n l) n.par) : Wf (putN n l) where
  rise := putN_rising n h.rise
  closed := fun x hx => by
    rcases putN_mem hx with rfl | hx
    · exact hasN_put h.rise _ _ hp
    · exact hasN_put h.rise _ _ (h.closed x hx)
  reach := reach_put h.rise n h.reach hn
/-- Along the road up from a stamp that does not come to n's number nothing changes. -/
theorem reach_avoid {l : List Nd} (hr : Rising l) (n : Nd) : ∀ (k : Nat) (s : St), belowF (kvN l) n.id k s = some false → Reach (putN n l) s
  | 0, s, h => by simp [belowF] at h
  | k + 1, s, h => by
    simp only [belowF] at h
    by_cases h1 : outerP s.t s.u = true
    · exact .out s h1
    · rw [if_neg h1] at h
      by_cases h2 : s = n.id
      · simp [h2] at h
      · rw [if_neg h2] at h
        have : upN (putN n l) s = upN l s := by simp [upN, getNd, lookup_kvN, findN_putN hr, h2]
        refine .up s ?_
        rw [this]
        exact reach_avoid hr n k _ h
/-- A road up among nodes that are there does not come to a number that is not. -/
theorem reach_new {l : List Nd} (h : Wf l) (n : Nd) (hn : findN l n.id = none) (s : St) (hs : hasN l s = true) : Reach (putN n l) s := by
  have h1 := h.reach s
  induction h1 with
  | out s h => exact .out s h
  | up s _ ih =>
    by_cases h2 : s.outer = true
    · exact .out s h2
    · have h3 : (findN l s).isSome = true := by simpa [hasN, h2] using hs
      obtain ⟨x, hx⟩ := Option.isSome_iff_exists.1 h3
      have hne : s ≠ n.id := fun e => by rw [e, hn] at hx; cases hx
      have h4 : upN (putN n l) s = upN l s := by simp [upN, getNd, lookup_kvN, findN_putN h.rise, hne]
      have h5 : upN l s = x.par := by simp [upN, getNd, lookup_kvN, hx]
      refine .up s ?_
      rw [h4]
      exact ih (by rw [h5]; exact h.closed x (findN_mem hx))
theorem wf_do {l : List Nd} (h : Wf l) (o : Opn) : Wf (doN l o) := by
  unfold doN
  extract_lets k p
  clear_value k p
  cases hf : findN l o.nd with
  | none =>
    simp only
    split
    · rename_i hc
      exact wf_put h _ hc.2 (reach_new h _ hf _ hc.2)
    · exact h
  | some x =>
    have hx := findN_mem hf
    have hid := findN_id hf
    have same : ∀ y : Nd, y.id = x.id → y.par = x.par → Wf (putN y l) := fun y h1 h2 => by
      refine wf_put h y (by rw [h2]; exact h.closed x hx) ?_
      have : ∀ s, Reach l s → Reach (putN y l) s := fun s hs => by
        induction hs with
        | out s h => exact .out s h
        | up s _ ih =>
          refine .up s ?_
          by_cases e : s = y.id
          · have h3 : upN (putN y l) s = upN l s := by
              have h4 : findN l s = some x := by rw [e, h1, hid, hf]
              simp only [upN, getNd, lookup_kvN, findN_putN h.rise, h4]
              simp [e, h2]
            rw [h3]; exact ih
          · have : upN (putN y l) s = upN l s := by simp [upN, getNd, lookup_kvN, findN_putN h.rise, e]
            rw [this]; exact ih
      exact this _ (h.reach _)
    simp only
    repeat' split
    · exact h
    · rename_i hc
      have hu := hc.2
      refine wf_put h _ hc.1 ?_
      have hrt := h.rooted p o.nd
      unfold underN at hu
      obtain ⟨b, hb⟩ := Option.isSome_iff_exists.1 hrt
      rw [hb] at hu
      simp only [Option.getD_some] at hu
      rw [hu] at hb
      refine reach_avoid h.rise _ (l.length + 2) _ ?_
      simpa [hid] using hb
    · exact h
    · exact same _ rfl rfl
    · exact same _ rfl rfl
    · exact h
theorem wf_nil : Wf [] where
  rise := List.Pairwise.nil
  closed := by simp
  reach := fun s => .up s (.out _ (by simp [upN, getNd, kvN, Nd.zero, St.outer, outerP]))
end Go.Proofs.YteghkajegdcbjaaDoor
