/-
  The data of layer 11 as plain Lean: stamps, nodes, operations; how each lies in memory.
-/
import Derived.Test.YteghkajegdcbjaaDoorM1
namespace Go.Proofs.YteghkajegdcbjaaDoor

/-- A stamp. -/
structure St where
  t : Int
  u : Int
  deriving DecidableEq
/-- A node. -/
structure Nd where
  id : St
  par : St
  nm : ByteArray
  vl : ByteArray
  deriving DecidableEq
/-- An operation. -/
structure Opn where
  kind : Int
  at_ : St
  nd : St
  par : St
  nm : ByteArray
  vl : ByteArray
  deriving DecidableEq

def St.v (s : St) : Value := .agg #[.int .i64 s.t, .int .i64 s.u]
def Nd.v (n : Nd) : Value := .agg #[.int .i64 n.id.t, .int .i64 n.id.u, .int .i64 n.par.t, .int .i64 n.par.u, .string n.nm, .string n.vl]
def Opn.v (o : Opn) : Value := .agg #[.int .i64 o.kind, .int .i64 o.at_.t, .int .i64 o.at_.u, .int .i64 o.nd.t, .int .i64 o.nd.u, .int .i64 o.par.t, .int .i64 o.par.u, .string o.nm, .string o.vl]
def Nd.cs (n : Nd) : List Value := [.int .i64 n.id.t, .int .i64 n.id.u, .int .i64 n.par.t, .int .i64 n.par.u, .string n.nm, .string n.vl]
def Opn.cs (o : Opn) : List Value := [.int .i64 o.kind, .int .i64 o.at_.t, .int .i64 o.at_.u, .int .i64 o.nd.t, .int .i64 o.nd.u, .int .i64 o.par.t, .int .i64 o.par.u, .string o.nm, .string o.vl]
def St.cs (s : St) : List Value := [.int .i64 s.t, .int .i64 s.u]

theorem St.v_inj (a b : St) (h : a.v = b.v) : a = b := by
  cases a; cases b; simp [St.v] at h; simp [h]

def St.zero : St := ⟨0, 0⟩
def Nd.zero : Nd := ⟨⟨0, 0⟩, ⟨0, 0⟩, ⟨#[]⟩, ⟨#[]⟩⟩

/-- Does one stamp stand ahead of another? -/
def lessP (t u t' u' : Int) : Bool := if t = t' then decide (u < u') else decide (t < t')
/-- May a stamp be one of an operation? -/
def mayP (t u : Int) : Bool := decide (1 ≤ t ∧ t ≤ 1099511627775 ∧ 1 ≤ u ∧ u ≤ 6)
def outerP (t u : Int) : Bool := decide (t = 0 ∧ (u = 0 ∨ u = 1))
def orderP (t u t' u' : Int) : Int := if lessP t u t' u' then -1 else if t = t' ∧ u = u' then 0 else 1
def St.lt (a b : St) : Bool := lessP a.t a.u b.t b.u
def St.outer (s : St) : Bool := outerP s.t s.u
def St.may (s : St) : Bool := mayP s.t s.u

theorem lt_irrefl (a : St) : a.lt a = false := by simp [St.lt, lessP]
theorem lt_trans {a b c : St} (h : a.lt b = true) (k : b.lt c = true) : a.lt c = true := by
  simp only [St.lt, lessP] at *
  repeat' split at h
  all_goals repeat' split at k
  all_goals repeat' split
  all_goals simp_all
  all_goals omega
theorem lt_total {a b : St} (h : a.lt b = false) (k : b.lt a = false) : a = b := by
  obtain ⟨at_, au⟩ := a
  obtain ⟨bt, bu⟩ := b
  simp only [St.lt, lessP] at *
  split at h <;> split at k <;> simp_all <;> omega
theorem lt_asymm {a b : St} (h : a.lt b = true) : b.lt a = false := by
  cases hb : b.lt a
  · rfl
  · have := lt_trans h hb
    rw [lt_irrefl] at this
    exact this.symm
theorem lt_ne {a b : St} (h : a.lt b = true) : a ≠ b := fun e => by subst e; rw [lt_irrefl] at h; cases h

/-- The node at a number; the zero node, if there is none. -/
def getNd (m : List (St × Nd)) (s : St) : Nd := (m.lookup s).getD Nd.zero
def hasNd (m : List (St × Nd)) (s : St) : Bool := (m.lookup s).isSome
/-- The road up from a stamp: true, if it comes to id ahead of the root, or the trash; in at most n steps. -/
def belowF (m : List (St × Nd)) (id : St) : Nat → St → Option Bool
  | 0, _ => none
  | n + 1, s => if outerP s.t s.u then some false else if s = id then some true else belowF m id n (getNd m s).par

/-- Nodes as entries. -/
def kvN (l : List Nd) : List (St × Nd) := l.map fun n => (n.id, n)
/-- Nodes rise by their numbers. -/
def Rising (l : List Nd) : Prop := l.Pairwise fun a b => a.id.lt b.id = true
def findN (l : List Nd) (s : St) : Option Nd := l.find? fun n => n.id = s
def hasN (l : List Nd) (s : St) : Bool := (findN l s).isSome || s.outer
/-- A node among the others, in the place of its like. -/
def putN (n : Nd) : List Nd → List Nd
  | [] => [n]
  | x :: r => if n.id.lt x.id then n :: x :: r else if x.id = n.id then n :: r else x :: putN n r
def underN (l : List Nd) (s id : St) : Bool := (belowF (kvN l) id (l.length + 2) s).getD true
/-- What an operation does to nodes. -/
def doN (l : List Nd) (o : Opn) : List Nd :=
  let k := if o.kind = 5 then 2 else o.kind
  let p := if o.kind = 5 then ⟨0, 1⟩ else o.par
  match findN l o.nd with
  | none => if k = 1 ∧ hasN l p = true then putN ⟨o.nd, p, o.nm, ⟨#[]⟩⟩ l else l
  | some x =>
    if k = 1 then l
    else if k = 2 then (if hasN l p = true ∧ underN l p o.nd = false then putN { x with par := p } l else l)
    else if k = 3 then putN { x with nm := o.nm } l
    else if k = 4 then putN { x with vl := o.vl } l
    else l
/-- From each node parents lead to the root, or to the trash. -/
def Rooted (l : List Nd) : Prop := ∀ s id, (belowF (kvN l) id (l.length + 2) s).isSome = true

theorem lookup_kvN (l : List Nd) (s : St) : (kvN l).lookup s = findN l s := by
  induction l with
  | nil => rfl
  | cons n l ih =>
    simp only [kvN, List.map_cons, List.lookup_cons, findN, List.find?_cons] at *
    by_cases h : n.id = s
    · simp [h]
    · have h1 : (s == n.id) = false := by simpa using fun e : s = n.id => h e.symm
      simp [h, h1, ih]
theorem hasNd_kvN (l : List Nd) (s : St) : hasNd (kvN l) s = (findN l s).isSome := by simp [hasNd, lookup_kvN]
theorem findN_id {l : List Nd} {s : St} {x : Nd} (h : findN l s = some x) : x.id = s := by
  have := List.find?_some h
  simpa using this
theorem findN_mem {l : List Nd} {s : St} {x : Nd} (h : findN l s = some x) : x ∈ l := List.mem_of_find?_eq_some h
theorem findN_none {l : List Nd} {s : St} (h : findN l s = none) : ∀ x ∈ l, x.id ≠ s := by
  intro x hx
  have := List.find?_eq_none.1 h x hx
  simpa using this
theorem rising_ids {l : List Nd} (h : Rising l) : (l.map Nd.id).Nodup := by
  rw [List.nodup_iff_pairwise_ne, List.pairwise_map]
  exact h.imp fun h => lt_ne h
theorem kvN_fst (l : List Nd) : (kvN l).map Prod.fst = l.map Nd.id := by simp [kvN]

/-- A node put among rising ones: the entries are those of a store. -/
theorem putN_perm (n : Nd) : ∀ {l : List Nd}, Rising l → (kvN (putN n l)).Perm (putKV n.id n (kvN l))
  | [], _ => by simp [putN, kvN, putKV]
  | x :: r, h => by
    have hx := (List.pairwise_cons.1 h).1
    have hr : Rising r := (List.pairwise_cons.1 h).2
    unfold putN
    split
    · rename_i hlt
      have hf : (kvN (x :: r)).filter (fun p => p.1 ≠ n.id) = kvN (x :: r) := by
        rw [List.filter_eq_self]
        intro p hp
        simp only [kvN, List.mem_map] at hp
        obtain ⟨y, hy, rfl⟩ := hp
        have : n.id.lt y.id = true := by
          rcases List.mem_cons.1 hy with rfl | hy
          · exact hlt
          · exact lt_trans hlt (hx y hy)
        simpa using fun e : y.id = n.id => lt_ne this e.symm
      simp only [putKV, hf]
      exact List.Perm.refl _
    · split
      · rename_i hlt he
        have hf : (kvN r).filter (fun p => p.1 ≠ n.id) = kvN r := by
          rw [List.filter_eq_self]
          intro p hp
          simp only [kvN, List.mem_map] at hp
          obtain ⟨y, hy, rfl⟩ := hp
          have := lt_ne (hx y hy)
          simpa using fun e : y.id = n.id => this (he.trans e.symm)
        have e1 : kvN (x :: r) = (x.id, x) :: kvN r := rfl
        simp only [putKV, e1]
        rw [List.filter_cons_of_neg (by simp [he]), hf]
        exact List.Perm.refl _
      · rename_i hlt he
        have ih := putN_perm n hr
        have e1 : kvN (x :: putN n r) = (x.id, x) :: kvN (putN n r) := rfl
        have e2 : kvN (x :: r) = (x.id, x) :: kvN r := rfl
        rw [e1, e2]
        refine (ih.cons _).trans ?_
        simp only [putKV]
        rw [List.filter_cons_of_pos (by simpa using he)]
        exact List.Perm.swap _ _ _
theorem putN_mem {n : Nd} : ∀ {l : List Nd} {y : Nd}, y ∈ putN n l → y = n ∨ y ∈ l
  | [], y, h => by simp [putN] at h; exact Or.inl h
  | x :: r, y, h => by
    unfold putN at h
    split at h
    · rcases List.mem_cons.1 h with h | h
      · exact Or.inl h
      · exact Or.inr h
    · split at h
      · rcases List.mem_cons.1 h with h | h
        · exact Or.inl h
        · exact Or.inr (by simp [h])
      · rcases List.mem_cons.1 h with h | h
        · exact Or.inr (by simp [h])
        · rcases putN_mem h with h | h
          · exact Or.inl h
          · exact Or.inr (by simp [h])
theorem putN_rising (n : Nd) : ∀ {l : List Nd}, Rising l → Rising (putN n l)
  | [], _ => by simp [putN, Rising]
  | x :: r, h => by
    have hx := (List.pairwise_cons.1 h).1
    have hr : Rising r := (List.pairwise_cons.1 h).2
    unfold putN
    split
    · rename_i hlt
      refine List.pairwise_cons.2 ⟨fun y hy => ?_, h⟩
      rcases List.mem_cons.1 hy with rfl | hy
      · exact hlt
      · exact lt_trans hlt (hx y hy)
    · split
      · rename_i hlt he
        exact List.pairwise_cons.2 ⟨fun y hy => by rw [← he]; exact hx y hy, hr⟩
      · rename_i hlt he
        refine List.pairwise_cons.2 ⟨fun y hy => ?_, putN_rising n hr⟩
        rcases putN_mem hy with rfl | hy
        · cases hxn : x.id.lt y.id
          · exact absurd (lt_total hxn (by simpa using hlt)) he
          · rfl
        · exact hx y hy
theorem doN_rising {l : List Nd} (h : Rising l) (o : Opn) : Rising (doN l o) := by
  unfold doN
  dsimp only
  repeat' split
  all_goals first | exact h | exact putN_rising _ h
/-- A node put in the place of itself. -/
theorem putN_self : ∀ {l : List Nd} {x : Nd}, Rising l → x ∈ l → putN x l = l
  | [], _, _, h => by simp at h
  | y :: r, x, h, hm => by
    have hy := (List.pairwise_cons.1 h).1
    unfold putN
    rcases List.mem_cons.1 hm with rfl | hm
    · rw [lt_irrefl]; simp
    · have := hy x hm
      rw [lt_asymm this]
      simp [lt_ne this, putN_self (List.pairwise_cons.1 h).2 hm]
end Go.Proofs.YteghkajegdcbjaaDoor
