/-
  Get: the node at a number.
-/
import Derived.Test.YteghkajegdcbjaaDoorT9
import Derived.BigRegion
namespace Go.Proofs.YteghkajegdcbjaaDoor
open Go.RowKit
set_option maxRecDepth 100000
set_option maxHeartbeats 1000000

theorem getNd_kvN (l : List Nd) (s : St) : getNd (kvN l) s = (findN l s).getD Nd.zero := by simp [getNd, lookup_kvN]

theorem get_any (w : World) (tb : Nat) (F : List Nat) (T : Tr) (t u : Int) (h : TreeAt w tb F T) :
    Calls Tryd.prog 19 #[.pointer (some ⟨tb, 0, none⟩), .agg #[.int .i64 t, .int .i64 u]] w (Ret (.tuple #[((findN T.now ⟨t, u⟩).getD Nd.zero).v, .bool (findN T.now ⟨t, u⟩).isSome]) w) := by
  have HT := Lib.hid h
  have hlt := HT.out.lt
  have hg := fun X Y => given_any ((w.alloc X).alloc Y) tb _ T (HT.out.of_blocks (fun k hk => (Below.heap_alloc _ Y k (by simp; have := HT.out.lt k hk; omega)).trans (Below.heap_alloc w X k (HT.out.lt k hk))))
  have HG := Lib.hid hg
  obtain ⟨bf, bn, sv, h1, h2, h3, h4, rfl, h5, h6⟩ := h
  have c1 := fun X Y => ((h1.alloc X).alloc Y).cell 1 rfl
  have hl : ∀ W, Below w.heap.size w W → (Instr.lookup 41 (.map (some bn)) (.agg #[.int .i64 t, .int .i64 u]) true).run Tryd.prog W = .ok (.tuple #[((findN T.now ⟨t, u⟩).getD Nd.zero).v, .bool (findN T.now ⟨t, u⟩).isSome]) W := fun W hW => by
    have := NodesAt.look (h3.1.below hW h3.1.lt) ⟨t, u⟩
    rw [getNd_kvN, hasNd_kvN] at this
    exact this
  generalize (findN T.now ⟨t, u⟩).getD Nd.zero = x at hl ⊢
  generalize (findN T.now ⟨t, u⟩).isSome = r at hl ⊢
  obtain ⟨⟨xa, xb⟩, ⟨xc, xd⟩, xn, xv⟩ := x
  simp only [Nd.v] at hl ⊢
  have HL := Lib.hid hl
  have hlt1 := h1.lt
  have hbn := h3.1.lt
  clear hg h1 h2 h3 h4 h5 h6 HT hl hlt
  go_enter Tryd.func19, Tryd.ntmps19
  go_wp2_with (go_at_call 35; refine (HG.out _ _).mono ?_; rintro e w1 ⟨rfl, rfl⟩)
  have hb0 : Below w.heap.size w ((w.alloc (.cells #[.int .i64 t, .int .i64 u] 28)).alloc (.cells #[.int .i64 0, .int .i64 0, .int .i64 0, .int .i64 0, .string ⟨#[]⟩, .string ⟨#[]⟩] 46)) := ((Below.refl _ _).alloc (Nat.le_refl _) _).alloc (by simp) _
  have hx1 := (Blk.at_ w [.int .i64 t, .int .i64 u] 28 rfl).alloc (.cells #[.int .i64 0, .int .i64 0, .int .i64 0, .int .i64 0, .string ⟨#[]⟩, .string ⟨#[]⟩] 46)
  have hx2 := Blk.at_ (w.alloc (.cells #[.int .i64 t, .int .i64 u] 28)) [.int .i64 0, .int .i64 0, .int .i64 0, .int .i64 0, .string ⟨#[]⟩, .string ⟨#[]⟩] 46 (b := w.heap.size + 1) (by simp)
  have c1' := c1 (.cells #[.int .i64 t, .int .i64 u] 28) (.cells #[.int .i64 0, .int .i64 0, .int .i64 0, .int .i64 0, .string ⟨#[]⟩, .string ⟨#[]⟩] 46)
  generalize (w.alloc (.cells #[.int .i64 t, .int .i64 u] 28)).alloc (.cells #[.int .i64 0, .int .i64 0, .int .i64 0, .int .i64 0, .string ⟨#[]⟩, .string ⟨#[]⟩] 46) = w2 at *
  have l2 := HL.out w2.drew hb0.drew
  have hz : w.heap.size ≤ w2.heap.size := hb0.size
  have l3 := fun X => HL.out (w2.alloc X).drew (hb0.alloc hz X).drew
  have lt2 := hx1.lt
  have lt3 : tb < w2.heap.size := by omega
  have s0 := hx1.cell 0 rfl
  have s1 := hx1.cell 1 rfl
  clear c1
  go_region
  have q0 := hx2.cell 0 rfl
  have q1 := hx2.cell 1 rfl
  have q2 := hx2.cell 2 rfl
  have q3 := hx2.cell 3 rfl
  have q4 := hx2.cell 4 rfl
  have q5 := hx2.cell 5 rfl
  have f0 := hx2.frozen 0
  have f1 := hx2.frozen 1
  have f2 := hx2.frozen 2
  have f3 := hx2.frozen 3
  have f4 := hx2.frozen 4
  have f5 := hx2.frozen 5
  have lt4 := hx2.lt
  go_wp2
  refine bodyPost_ret (v := .tuple #[.agg #[.int .i64 xa, .int .i64 xb, .int .i64 xc, .int .i64 xd, .string xn, .string xv], .bool r]) (by simp [results, Tryd.results19, go_sem, q0, q1, q2, q3, q4, q5, lt4]) rfl ⟨rfl, ?_⟩
  repeat (first | with_reducible exact hb0 | with_reducible refine Below.drew ?_ | with_reducible refine Below.alloc ?_ ?_ _ | with_reducible refine Below.setCell ?_ ?_ _)
  all_goals (simp; try omega)
end Go.Proofs.YteghkajegdcbjaaDoor
