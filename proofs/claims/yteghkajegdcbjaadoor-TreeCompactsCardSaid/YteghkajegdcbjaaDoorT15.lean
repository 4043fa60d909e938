/-
  Nodes, Fixed, Ops of a tree: new slices.
-/
import Derived.Test.YteghkajegdcbjaaDoorT14
namespace Go.Proofs.YteghkajegdcbjaaDoor
open Go.RowKit
set_option maxRecDepth 100000
set_option maxHeartbeats 1000000

theorem nodes_any (w : World) (tb : Nat) (F : List Nat) (T : Tr) (h : TreeAt w tb F T) (hs : T.now.length ≤ 100000) : Calls Tryd.prog 17 #[.pointer (some ⟨tb, 0, none⟩)] w (Listed T.now w) := by
  have HG := Lib.hid (given_any w tb F T h)
  obtain ⟨bf, bn, sv, h1, h2, h3, h4, rfl, h5, h6⟩ := h
  have c1 := h1.cell 1 rfl
  have HL := Lib.hid (list_any bn T.now w h3 hs)
  clear h1 h2 h3 h4 h5 h6
  go_enter Tryd.func17, Tryd.ntmps17
  go_wp2_with (first
    | (go_at_call 35; refine HG.out.mono ?_; rintro e w1 ⟨rfl, rfl⟩)
    | (go_at_call 47; refine HL.out.mono ?_; rintro e w1 ⟨v, rfl, ho, hn, hb⟩; have HO := Lib.hid ho; have HN := Lib.hid hn; clear ho hn))
  go_ret
  exact ⟨v, rfl, HO.out, HN.out, hb⟩
theorem fixed_any (w : World) (tb : Nat) (F : List Nat) (T : Tr) (h : TreeAt w tb F T) (hs : T.fixed.length ≤ 100000) : Calls Tryd.prog 20 #[.pointer (some ⟨tb, 0, none⟩)] w (Listed T.fixed w) := by
  have HG := Lib.hid (given_any w tb F T h)
  obtain ⟨bf, bn, sv, h1, h2, h3, h4, rfl, h5, h6⟩ := h
  have c1 := h1.cell 0 rfl
  have HL := Lib.hid (list_any bf T.fixed w h2 hs)
  clear h1 h2 h3 h4 h5 h6
  go_enter Tryd.func20, Tryd.ntmps20
  go_wp2_with (first
    | (go_at_call 35; refine HG.out.mono ?_; rintro e w1 ⟨rfl, rfl⟩)
    | (go_at_call 47; refine HL.out.mono ?_; rintro e w1 ⟨v, rfl, ho, hn, hb⟩; have HO := Lib.hid ho; have HN := Lib.hid hn; clear ho hn))
  go_ret
  exact ⟨v, rfl, HO.out, HN.out, hb⟩

theorem info_op : (Tryd.prog.info? 30).map (fun i => (i.zero, i.size, i.bytes)) = some (some (Value.agg #[.int .i64 0, .int .i64 0, .int .i64 0, .int .i64 0, .int .i64 0, .int .i64 0, .int .i64 0, .string ⟨#[]⟩, .string ⟨#[]⟩]), 9, 88) := by kernel_rfl
theorem und_ops : Tryd.prog.underlying 22 = some (.slice 30) := by kernel_rfl

/-- What comes back: a new slice that owns just these operations. -/
def ListedO (l : List Opn) (w : World) (e : Ending) (w' : World) : Prop :=
  ∃ v, e = .returned v ∧ w'.ownsRow w.heap.size 30 9 v l.length (flatO l) ∧ Below w.heap.size w w'

theorem clone_any (w : World) (sv : Value) (l : List Opn) (h : OpsAt w sv l) (hs : l.length ≤ 100000) : Calls Tryd.prog 48 #[sv] w (ListedO l w) := by
  rcases h.cases with ⟨rfl, rfl⟩ | ⟨g, cap, rfl⟩
  · have q := fun (w : World) => Lib.run_eql_slice_nil (P := Tryd.prog) w 22 _ none 0 0 0 0 und_ops
    clear h
    go_enter Tryd.func48, Tryd.ntmps48
    go_wp2
    go_ret
    exact ⟨_, rfl, World.ownsRow_nil _ _ _ _, Below.refl _ _⟩
  · have q := fun (w : World) => Lib.run_eql_slice_nil (P := Tryd.prog) w 22 _ (some ⟨g, 0, none⟩) l.length cap 0 0 und_ops
    have HO := Lib.hid h
    have hc : ∀ (j : Nat) (u : Value), (flatO l)[j]? = some u → (w.alloc (.cells #[] 30)).cell? ((⟨g, 0, none⟩ : Addr).add j) = some u := fun j u hu => by
      have := (World.ownsRow.alloc h (.cells #[] 30)).cells (g := g) rfl j u hu
      exact this
    have h1 : ∀ u ∈ flatO l, u.oneCell' = true := by
      intro u hu
      simp only [flatO, List.mem_flatMap] at hu
      obtain ⟨o, _, ho⟩ := hu
      simp [Opn.cs] at ho
      rcases ho with rfl | rfl | rfl | rfl | rfl | rfl | rfl | rfl | rfl <;> rfl
    have HC := Lib.hid hc
    have H1 := Lib.hid h1
    obtain ⟨i0, hi, hz0, hz1, hz2⟩ := info_parts info_op
    have I1 := Lib.hid hi
    have I2 := Lib.hid hz0
    have I3 := Lib.hid hz1
    have I4 := Lib.hid hz2
    clear h hc h1 hi hz0 hz1 hz2
    go_enter Tryd.func48, Tryd.ntmps48
    go_wp2_with (at_builtin; refine wpList_append_own _ rfl _ _ 22 rfl w.heap.size 30 i0 _ 9 88 und_ops I1.out I2.out I3.out I4.out rfl (by decide) (.slice (some ⟨w.heap.size, 0, none⟩) 0 0) 0 [] rfl (World.ownsRow_made w #[] 0 (Nat.le_refl _) (by simp [maxLen]) (by simp)) ⟨g, 0, none⟩ l.length cap (flatO l) rfl (flatO_length l) HC.out H1.out (by simp only [maxLen]; omega) (by omega) (by simp) ?_; intro v' w1 hown' hgrow hnn; clear hnn; have HOW := Lib.hid hown'; have HGR := Lib.hid hgrow; clear hown' hgrow)
    go_ret
    refine ⟨v', rfl, by simpa using HOW.out, ((Below.refl _ w).alloc (Nat.le_refl _) _).grown HGR.out (by simp) (fun k e => by simp [Value.ownBlock] at e; omega)⟩

theorem ops_any (w : World) (tb : Nat) (F : List Nat) (T : Tr) (h : TreeAt w tb F T) (hs : T.ops.length ≤ 100000) : Calls Tryd.prog 18 #[.pointer (some ⟨tb, 0, none⟩)] w (ListedO T.ops w) := by
  have HG := Lib.hid (given_any w tb F T h)
  obtain ⟨bf, bn, sv, h1, h2, h3, h4, rfl, h5, h6⟩ := h
  have c1 := h1.cell 2 rfl
  have HL := Lib.hid (clone_any w sv T.ops h4 hs)
  clear h1 h2 h3 h4 h5 h6
  go_enter Tryd.func18, Tryd.ntmps18
  go_wp2_with (first
    | (go_at_call 35; refine HG.out.mono ?_; rintro e w1 ⟨rfl, rfl⟩)
    | (go_at_call 48; refine HL.out.mono ?_; rintro e w1 ⟨v, rfl, ho, hb⟩; have HO := Lib.hid ho; clear ho))
  go_ret
  exact ⟨v, rfl, HO.out, hb⟩
end Go.Proofs.YteghkajegdcbjaaDoor
