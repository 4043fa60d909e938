/-
  The closures that compare, and the sort of nodes by their numbers.
-/
import Derived.Test.YteghkajegdcbjaaDoorT10
import Derived.Test.YteghkajegdcbjaaDoorM3
import Derived.Test.YteghkajegdcbjaaDoorSh1
namespace Go.Proofs.YteghkajegdcbjaaDoor
open Go.RowKit Go.Sort
set_option maxRecDepth 100000
set_option maxHeartbeats 1000000

/-- A value comes back; new blocks alone are laid; nothing is drawn. -/
def RetG (v : Value) (w : World) (e : Ending) (w' : World) : Prop := e = .returned v ∧ ∃ os, w' = grow w os

theorem less_grow (t u t' u' : Int) (w : World) :
    Calls Tryd.prog 37 #[.agg #[.int .i64 t, .int .i64 u], .agg #[.int .i64 t', .int .i64 u']] w (RetG (.bool (lessP t u t' u')) w) := by
  by_cases h : t = t'
  · subst h
    go_enter Tryd.func37, Tryd.ntmps37
    go_wp2
    go_ret
    exact ⟨by simp [lessP], _, by rw [alloc_eq_grow, alloc_eq_grow, grow_grow]⟩
  · have h2 : (t == t') = false := by simpa using h
    go_enter Tryd.func37, Tryd.ntmps37
    go_wp2
    go_ret
    exact ⟨by simp [lessP, h], _, by rw [alloc_eq_grow, alloc_eq_grow, grow_grow]⟩

theorem grow_below {W w1 : World} {os : Array Obj} (h : w1 = grow W os) : Below W.heap.size W w1 := by
  subst h
  exact ⟨rfl, rfl, rfl, by simp, fun k hk => heap_grow_old _ _ hk⟩

theorem order_grow (t u t' u' : Int) (w : World) :
    Calls Tryd.prog 40 #[.agg #[.int .i64 t, .int .i64 u], .agg #[.int .i64 t', .int .i64 u']] w (RetG (.int .i64 (orderP t u t' u')) w) := by
  have e1 := fun (w : World) => eqSt 9998 w t t' u u'
  have HL := Lib.hid (less_grow t u t' u')
  cases hl : lessP t u t' u'
  all_goals
    have HO : Hid (lessP t u t' u' = _) := hl
    rw [hl] at HL
    clear hl
    go_enter Tryd.func40, Tryd.ntmps40
    go_wp2_with (go_at_call 37; refine (HL.out _).mono ?_; rintro e w' ⟨rfl, hg⟩; have HG := Lib.hid hg; obtain ⟨hc, hf⟩ := bcell (grow_below hg.choose_spec); clear hg)
    all_goals
      go_ret
      refine ⟨ret_int ?_, ?_⟩
      · have ho := HO.out
        simp [orderP, ho] <;> (rename_i hx; simp at hx; omega)
      · obtain ⟨os, hos⟩ := HG.out
        exact ⟨_, by rw [hos, alloc_eq_grow, alloc_eq_grow, grow_grow, grow_grow]⟩

theorem ordNd_grow (a b c d a' b' c' d' : Int) (n v n' v' : ByteArray) (w : World) :
    Calls Tryd.prog 77 #[.agg #[.int .i64 a, .int .i64 b, .int .i64 c, .int .i64 d, .string n, .string v], .agg #[.int .i64 a', .int .i64 b', .int .i64 c', .int .i64 d', .string n', .string v']] w (RetG (.int .i64 (orderP a b a' b')) w) := by
  have HL := Lib.hid (order_grow a b a' b')
  go_enter Tryd.func77, Tryd.ntmps77
  go_wp2_with (go_at_call 40; refine (HL.out _).mono ?_; rintro e w' ⟨rfl, hg⟩; have HG := Lib.hid hg; clear hg)
  go_ret
  obtain ⟨os, hos⟩ := HG.out
  exact ⟨rfl, _, by rw [hos, alloc_eq_grow, alloc_eq_grow, grow_grow, grow_grow]⟩
theorem ordOp_grow (k a b c d f g : Int) (n v : ByteArray) (t u : Int) (w : World) :
    Calls Tryd.prog 39 #[.agg #[.int .i64 k, .int .i64 a, .int .i64 b, .int .i64 c, .int .i64 d, .int .i64 f, .int .i64 g, .string n, .string v], .agg #[.int .i64 t, .int .i64 u]] w (RetG (.int .i64 (orderP a b t u)) w) := by
  have HL := Lib.hid (order_grow a b t u)
  go_enter Tryd.func39, Tryd.ntmps39
  go_wp2_with (go_at_call 40; refine (HL.out _).mono ?_; rintro e w' ⟨rfl, hg⟩; have HG := Lib.hid hg; clear hg)
  go_ret
  obtain ⟨os, hos⟩ := HG.out
  exact ⟨rfl, _, by rw [hos, alloc_eq_grow, alloc_eq_grow, grow_grow, grow_grow]⟩

instance : Inhabited Nd := ⟨Nd.zero⟩
def cmpNd (x y : Nd) : Int := orderP x.id.t x.id.u y.id.t y.id.u
theorem ltNd (x y : Nd) : ltOf cmpNd x y = x.id.lt y.id := by
  unfold ltOf cmpNd orderP St.lt
  cases lessP x.id.t x.id.u y.id.t y.id.u
  · by_cases h : x.id.t = y.id.t ∧ x.id.u = y.id.u <;> simp [h]
  · simp
theorem swoNd : SWO (ltOf cmpNd) where
  irrefl x := by rw [ltNd]; exact lt_irrefl _
  trans x y z h1 h2 := by rw [ltNd] at *; exact lt_trans h1 h2
  ntrans x y z h1 h2 := by
    rw [ltNd] at *
    cases h3 : z.id.lt y.id
    · have := lt_total h2 h3
      rw [← this]; exact h1
    · cases h4 : x.id.lt z.id
      · rfl
      · rw [lt_trans h4 h3] at h1; cases h1

def Sorted (base g cap : Nat) (l : List Nd) (w : World) (e : Ending) (w' : World) : Prop :=
  e = .returned (.tuple #[]) ∧ ∃ l', l'.Perm l ∧ Rising l' ∧ w'.ownsRow base 46 6 (.slice (some ⟨g, 0, none⟩) l'.length cap) l'.length (flatN l') ∧ w.grownBy w' (some g)

theorem sortNd_any (base g cap : Nat) (l : List Nd) (w : World) (h : w.ownsRow base 46 6 (.slice (some ⟨g, 0, none⟩) l.length cap) l.length (flatN l)) (hnd : (l.map Nd.id).Nodup) (hsz : l.length < 4611686018427387904) :
    Calls Tryd.prog 76 #[.slice (some ⟨g, 0, none⟩) l.length cap, .func (.func 77) #[] #[]] w (Sorted base g cap l w) := by
  have eg : ∀ args w, (callFunc 77 args).run Tryd.prog w = .ok (.enter 77 args) w := enters_of Tryd.func77 (by kernel_rfl) rfl
  have hcmp : CmpLays Tryd.prog 77 #[] Nd.cs 6 cmpNd g 0 l.toArray.size w := fun m os dk hdk x y => by
    refine (ordNd_grow x.id.t x.id.u x.par.t x.par.u y.id.t y.id.u y.par.t y.par.u x.nm x.vl y.nm y.vl _).mono ?_
    rintro e w' ⟨rfl, os', rfl⟩
    exact ⟨rfl, 0, os', rfl⟩
  have hH := holdsK_own Nd.cs 6 (by omega) (fun _ => rfl) h
  have hlt : g < w.heap.size := (World.ownsRow.lt h g rfl).2
  have hcon := AnyQ.slices_SortFunc Tryd.sortNd 6 Tryd.isAgg46 Tryd.sizeOf46 Nd.cs (fun _ => rfl) (fun x v hv => by simp [Nd.cs] at hv; rcases hv with rfl | rfl | rfl | rfl | rfl | rfl <;> rfl) cmpNd swoNd 77 #[] g 0 cap l.toArray w eg hcmp hH hlt (by simpa using hsz)
  change Calls Tryd.prog 76 _ _ _ at hcon
  refine hcon.mono ?_
  rintro e w' ⟨rfl, d', n, os, hp, hs, rfl⟩
  have hd : d'.size = l.length := by simpa using hp.1
  have hpl : d'.toList.Perm l := by
    have := hp.2.2
    simp only [List.size_toArray] at this
    rw [show d'.extract 0 l.length = d' by rw [← hd]; simp, show l.toArray.extract 0 l.length = l.toArray by simp] at this
    simpa using this
  have ho := own_sorted (n := n) (os := os) Nd.cs 6 (by omega) (fun _ => rfl) hd h
  refine ⟨rfl, d'.toList, hpl, ?_, ?_, ho.2⟩
  · unfold Rising
    rw [List.pairwise_iff_getElem]
    intro i j hi hj hij
    have h1 := hs i j (Nat.zero_le _) hij (by simpa [hd] using hj)
    rw [ltNd, getElem!_pos _ j (by simpa using hj), getElem!_pos _ i (by simpa using hi)] at h1
    simp only [Array.getElem_toList]
    cases h2 : d'[i].id.lt d'[j].id
    · have h3 := lt_total h2 h1
      have h4 : (d'.toList.map Nd.id).Nodup := (hpl.map Nd.id).nodup_iff.2 hnd
      have h5 := List.pairwise_iff_getElem.1 h4 i j (by simpa using hi) (by simpa using hj) hij
      simp only [List.getElem_map, Array.getElem_toList] at h5
      exact absurd h3 h5
    · rfl
  · have := ho.1
    simpa [flatN, hd] using this
end Go.Proofs.YteghkajegdcbjaaDoor
