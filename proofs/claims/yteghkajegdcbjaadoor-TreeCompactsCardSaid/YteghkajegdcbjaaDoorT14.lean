/-
  list, Nodes, Fixed: all nodes by their numbers.
-/
import Derived.Test.YteghkajegdcbjaaDoorT13
import Derived.Shelf.SlSortCmp.NoneTotal
namespace Go.Proofs.YteghkajegdcbjaaDoor
open Go.RowKit
set_option maxRecDepth 100000
set_option maxHeartbeats 1000000

/-- What comes back: a new slice that owns just these nodes. -/
def Listed (l : List Nd) (w : World) (e : Ending) (w' : World) : Prop :=
  ∃ v, e = .returned v ∧ w'.ownsRow w.heap.size 46 6 v l.length (flatN l) ∧ (v = .slice none 0 0 ↔ l = []) ∧ Below w.heap.size w w'

theorem rising_perm {l l' : List Nd} (h : Rising l) (h' : Rising l') (hp : l.Perm l') : l = l' := by
  refine List.Perm.eq_of_pairwise (le := fun a b : Nd => a.id.lt b.id = true) ?_ h h' hp
  intro a b _ _ h1 h2
  rw [lt_asymm h1] at h2
  cases h2

theorem kvN_snd (l : List Nd) : (kvN l).map Prod.snd = l := by simp only [kvN, List.map_map]; exact List.map_id _
theorem ownsRow_base {w : World} {base base' : Nat} {e : TypeId} {size : Nat} {v : Value} {n : Nat} {xs : List Value} (h : w.ownsRow base e size v n xs) (hb : base' ≤ base) : w.ownsRow base' e size v n xs := by
  refine ⟨h.1, ?_⟩
  rcases h.2 with hn | ⟨g, cap, cur, rfl, hbb, rest⟩
  · exact .inl hn
  · exact .inr ⟨g, cap, cur, rfl, Nat.le_trans hb hbb, rest⟩

theorem list_any (b : Nat) (l : List Nd) (w : World) (h : NodesL w b l) (hsz : l.length ≤ 100000) : Calls Tryd.prog 47 #[.map (some b)] w (Listed l w) := by
  have hx := Blk.at_ w [.map (some b)] 41 rfl
  have HC := Lib.hid (collect_any w.heap.size b (kvN l) (w.alloc (.cells #[.map (some b)] 41)) (by simp) (hx.cell 0 rfl) (h.1.alloc _) (by simpa [kvN] using hsz))
  have HL := Lib.hid h
  have HX := Lib.hid hx
  clear h hx
  go_enter Tryd.func47, Tryd.ntmps47
  go_wp2_with fail
  refine (values_any _ _).mono ?_
  rintro e w1 ⟨rfl, rfl⟩
  go_wp2_with fail
  refine HC.out.mono ?_
  rintro e w1 ⟨v, ys, rfl, hp, ho, hn, hb⟩
  rw [kvN_snd] at hp
  have hb1 : Below w.heap.size w w1 := ((Below.refl _ w).alloc (Nat.le_refl _) _).trans (hb.mono (by simp))
  have hnd : (ys.map Nd.id).Nodup := (hp.map Nd.id).nodup_iff.2 (rising_ids HL.out.2)
  have hle : ys.length = l.length := hp.length_eq
  rcases ho.2 with ⟨rfl, hz⟩ | ⟨g, cap, cur, rfl, hgb, _⟩
  · have hy : ys = [] := List.eq_nil_of_length_eq_zero hz
    subst hy
    have hl : l = [] := by simpa using hp
    have HLL := Lib.hid hl
    have hno := AnyF.slices_SortFunc_none Tryd.sortNd none 0 (.func (.func 77) #[] #[]) w1
    change Calls Tryd.prog 76 _ _ _ at hno
    have HNO := Lib.hid hno
    have HB1 := Lib.hid hb1
    clear hno hp hn hb hnd hle hl ho hb1
    go_wp2_with fail
    refine HNO.out.mono ?_
    rintro e w2 ⟨rfl, rfl⟩
    go_wp2
    go_ret
    exact ⟨_, rfl, by rw [HLL.out]; exact World.ownsRow_nil _ _ _ _, by simp [HLL.out], HB1.out⟩
  · have hso := sortNd_any (w.heap.size + 1) g cap ys w1 (by simpa using ho) hnd (by omega)
    have HSO := Lib.hid hso
    have HB1 := Lib.hid hb1
    have HP := Lib.hid hp
    have HN := Lib.hid hn
    have hg : w.heap.size ≤ g := by simp at hgb; omega
    have hw1 := hb1.size
    clear hso hp hn hb hnd hle ho hb1
    go_wp2_with fail
    refine HSO.out.mono ?_
    rintro e w2 ⟨rfl, ys', hpp, hri, ho2, hgr⟩
    obtain rfl : ys' = l := rising_perm hri HL.out.2 (hpp.trans HP.out)
    have hll : ys.length = ys'.length := hpp.length_eq.symm
    have HO2 := Lib.hid ho2
    have HLN := Lib.hid hll
    clear ho2 hpp hri hll
    go_wp2
    go_ret
    refine ⟨_, rfl, ?_, ?_, HB1.out.grown hgr (by omega) (fun k e => by have := Option.some.inj e; omega)⟩
    · rw [HLN.out]
      exact ownsRow_base HO2.out (by omega)
    · have h1 := HN.out
      have h2 := HLN.out
      constructor
      · intro e; cases e
      · intro e; rw [e] at h2; have := List.eq_nil_of_length_eq_zero h2; exact h1.2 this
end Go.Proofs.YteghkajegdcbjaaDoor
