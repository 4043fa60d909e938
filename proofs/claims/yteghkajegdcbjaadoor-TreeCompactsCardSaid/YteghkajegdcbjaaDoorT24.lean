/-
  Compact: what it answers, and what the tree is behind it.
-/
import Derived.Test.YteghkajegdcbjaaDoorT23
import Derived.Deep.LoopGhost
namespace Go.Proofs.YteghkajegdcbjaaDoor
open Go.RowKit
set_option maxRecDepth 100000
set_option maxHeartbeats 4000000

theorem apply_any (w : World) (tb : Nat) (F : List Nat) (T : Tr) (o : Opn) (h : TreeAt w tb F T) (hI : Inv T) (hT : Tabs w) (hs : o.nm.size ≤ 4611686018427387904) :
    Calls Tryd.prog 13 #[.pointer (some ⟨tb, 0, none⟩), o.v] w (Applied tb F T o w) := by
  have none : (okOp o = false ∨ T.base.lt o.at_ = false) → ∀ e w', Ret (.int .i64 1) w e w' → Applied tb F T o w e w' := fun hc e w' hr => by
    have e1 : applyN T o = (T, 1) := by unfold applyN; rw [if_pos hc]
    exact ⟨F, by rw [e1]; exact hr.1, by rw [e1]; exact h.below hr.2 h.lt, Fr.of_below _ hr.2, fun x hx => Or.inl hx⟩
  cases hb : okOp o
  · exact (apply_bad w tb F T o h hT hs hb).mono (none (Or.inl hb))
  · cases hl : T.base.lt o.at_
    · exact (apply_late w tb F T o h hT hs hb hl).mono (none (Or.inr hl))
    · exact apply_in w tb F T o h hI hT hs hb hl

theorem compact_nil (w : World) (t u : Int) : Calls Tryd.prog 14 #[.pointer none, .agg #[.int .i64 t, .int .i64 u]] w (Ret (.int .i64 0) w) := by
  have HG := Lib.hid given_nil
  go_enter Tryd.func14, Tryd.ntmps14
  go_wp2_with (go_at_call 35; refine (HG.out _).mono ?_; rintro e w1 ⟨rfl, rfl⟩)
  go_ret
  exact ⟨rfl, (Below.refl _ _).alloc (Nat.le_refl _) _⟩
theorem compact_empty (w : World) (tb : Nat) (t u : Int) (p q r v : Value) (h : Blk w tb [.map none, p, q, r, v] 43) : Calls Tryd.prog 14 #[.pointer (some ⟨tb, 0, none⟩), .agg #[.int .i64 t, .int .i64 u]] w (Ret (.int .i64 0) w) := by
  have HG := Lib.hid (given_empty _ tb p q r v (h.alloc (.cells #[.int .i64 t, .int .i64 u] 28)))
  clear h
  go_enter Tryd.func14, Tryd.ntmps14
  go_wp2_with (go_at_call 35; refine (HG.out).mono ?_; rintro e w1 ⟨rfl, rfl⟩)
  go_ret
  exact ⟨rfl, (Below.refl _ _).alloc (Nat.le_refl _) _⟩

theorem upto_le (l : List Opn) (s : St) : uptoN l s ≤ l.length := by
  have h1 := congrArg List.length (List.takeWhile_append_dropWhile (p := fun x : Opn => !s.lt x.at_) (l := l))
  simp only [List.length_append] at h1
  unfold uptoN
  omega
theorem upto_lt {l : List Opn} {s : St} {j : Nat} (h : j < uptoN l s) (hj : j < l.length) : s.lt l[j].at_ = false := by
  induction l generalizing j with
  | nil => simp at hj
  | cons x r ih =>
    unfold uptoN at h
    rw [List.takeWhile_cons] at h
    split at h
    · rename_i hx
      cases j with
      | zero => simpa using hx
      | succ j => exact ih (by simpa [uptoN] using h) (by simpa using hj)
    · simp at h
theorem upto_at {l : List Opn} {s : St} (h : uptoN l s < l.length) : s.lt (l[uptoN l s]).at_ = true := by
  have key : ∀ (l : List Opn) (n : Nat), uptoN l s = n → ∀ (hn : n < l.length), s.lt (l[n]).at_ = true := by
    intro l
    induction l with
    | nil => intro n _ hn; simp at hn
    | cons x r ih =>
      intro n e hn
      unfold uptoN at e
      rw [List.takeWhile_cons] at e
      split at e
      · obtain ⟨m, rfl⟩ : ∃ m, n = m + 1 := ⟨n - 1, by simp at e; omega⟩
        exact ih m (by simpa [uptoN] using e) (by simpa using hn)
      · rename_i hx
        simp at e
        subst e
        simpa using hx
  exact key l _ rfl h

def Compacted (tb : Nat) (F : List Nat) (T : Tr) (s : St) (w : World) (e : Ending) (w' : World) : Prop :=
  e = .returned (.int .i64 (compactN T s).2) ∧ TreeAt w' tb F (compactN T s).1 ∧ Fr F w w'

theorem compacted_mk {w wF : World} {tb bf bn : Nat} {F : List Nat} {svF : Value} {T T' : Tr} {s : St} {n : Nat} (hC : compactN T s = (T', n))
    (hX : Blk wF tb [.map (some bf), .map (some bn), svF, .int .i64 T'.base.t, .int .i64 T'.base.u] 43) (h2 : NodesL wF bf T'.fixed) (h3 : NodesL wF bn T'.now) (h4 : OpsAt wF svF T'.ops)
    (hF : F = [tb, bf, bn] ++ svF.ownBlock.toList) (h5 : bf ≠ bn) (h6 : svF.ownBlock ≠ some tb) (hfr : Fr F w wF) : Compacted tb F T s w (.returned (.int .i64 n)) wF := by
  unfold Compacted
  rw [hC]
  exact ⟨rfl, ⟨bf, bn, svF, hX, h2, h3, h4, hF, h5, h6⟩, hfr⟩

theorem compact_in (w : World) (tb : Nat) (F : List Nat) (T : Tr) (t u : Int) (h : TreeAt w tb F T) (hI : Inv T) (hm : (⟨t, u⟩ : St).may = true) :
    Calls Tryd.prog 14 #[.pointer (some ⟨tb, 0, none⟩), .agg #[.int .i64 t, .int .i64 u]] w (Compacted tb F T ⟨t, u⟩ w) := by
  have HT := Lib.hid h
  have HI := Lib.hid hI
  obtain ⟨N, hN⟩ : ∃ N, uptoN T.ops ⟨t, u⟩ = N := ⟨_, rfl⟩
  have HC : Hid (compactN T ⟨t, u⟩ = ({ T with fixed := foldN T.fixed (T.ops.take N), ops := T.ops.drop N, base := if T.base.lt ⟨t, u⟩ = true then ⟨t, u⟩ else T.base }, N)) := Lib.hid (by
    unfold compactN
    rw [if_neg (by rw [hm]; simp), hN])
  have hNl : N ≤ T.ops.length := by rw [← hN]; exact upto_le _ _
  have HLT : Hid (∀ j (hj : j < T.ops.length), j < N → (⟨t, u⟩ : St).lt T.ops[j].at_ = false) := Lib.hid (fun j hj hjn => upto_lt (by rw [hN]; exact hjn) hj)
  have HAT : Hid (∀ (hj : N < T.ops.length), (⟨t, u⟩ : St).lt T.ops[N].at_ = true) := Lib.hid (by subst hN; exact fun hj => upto_at hj)
  have hg := given_any (w.alloc (.cells #[.int .i64 t, .int .i64 u] 28)) tb F T (h.below ((Below.refl _ _).alloc (Nat.le_refl _) _) h.lt)
  have hf : ∀ W, Calls Tryd.prog 45 #[.agg #[.int .i64 t, .int .i64 u]] W (Ret (.bool true) W) := fun W => by
    have := fine_any t u W
    rw [show mayP t u = true from hm] at this
    exact this
  have HG := Lib.hid hg
  have HFI := Lib.hid hf
  obtain ⟨bf, bn, sv, h1, h2, h3, h4, rfl, h5, h6⟩ := h
  have H1 := Lib.hid h1
  have H2 := Lib.hid h2
  have H3 := Lib.hid h3
  have H4 := Lib.hid h4
  have hcs := h4.cases
  have hne1 : tb ≠ bf := map_ne_cells h2.1 h1
  have hne2 : ∀ g, sv.ownBlock = some g → g ≠ bf := fun g hg => by
    obtain ⟨cur, hc⟩ := h4.isCells hg
    exact map_ne_cells h2.1 hc
  have hB := Blk.at_ w [.int .i64 t, .int .i64 u] 28 rfl
  have hne3 : tb ≠ bn := map_ne_cells h3.1 h1
  have hne4 : ∀ g, sv.ownBlock = some g → g ≠ bn := fun g hg => by
    obtain ⟨cur, hc⟩ := h4.isCells hg
    exact map_ne_cells h3.1 hc
  have hltb := h1.lt
  have hlbf := h2.1.lt
  have HLG : Hid (∀ g, sv.ownBlock = some g → g < w.heap.size) := Lib.hid (fun g hg => h4.lt hg)
  clear hg hf h1 h2 h3 h4 hm hN
  go_enter Tryd.func14, Tryd.ntmps14
  go_wp2_with (first
    | (go_at_call 35; refine HG.out.mono ?_; rintro e w1 ⟨rfl, rfl⟩)
    | (go_at_call 45; refine (HFI.out _).mono ?_; rintro e w1 ⟨rfl, hb⟩))
  have hb0 : Below w.heap.size w w1 := below_up ((Below.refl _ _).alloc (Nat.le_refl _) _) hb (by simp)
  have hB1 := hB.below hb hB.lt
  clear hB hb HG HFI
  go_loopg [5] (N + 1) (fun gk vi wr => ∃ j : Nat, vi = .int .i64 j ∧ j ≤ N ∧ N < j + gk ∧ Blk wr w.heap.size [.int .i64 t, .int .i64 u] 28 ∧ NodesL wr bf (foldN T.fixed (T.ops.take j)) ∧ Fr [bf] w wr)
  case atStart => exact ⟨0, rfl, Nat.zero_le _, by omega, hB1, H2.out.of_block (hb0.block _ hlbf), Fr.of_below _ hb0⟩
  case round =>
    clear hB1 hb0
    obtain ⟨j, rfl, hjN, hm, hB, hN, hF⟩ := hrel
    have hX := H1.out.of_block (hF.block _ hltb (by simpa using hne1))
    have hO := H4.out.of_block (fun g hg => hF.block _ (HLG.out g hg) (by simpa using hne2 g hg))
    have hbb : w.heap.size ≠ bf := by omega
    by_cases hj : j < N
    · rcases hcs with ⟨rfl, hnil⟩ | ⟨g, cap, rfl⟩
      · rw [hnil] at hNl; simp at hNl; omega
      · have hjl : j < T.ops.length := by omega
        have hjl2 : (j : Int) < T.ops.length := by omega
        have hjl3 : decide ((j : Int) < (T.ops.length : Int)) = true := by simpa using hjl
        have hj0 : (0 : Int) ≤ j := by omega
        have hjb : (j : Int) ≤ 512 := by have := HI.out.few; omega
        have HJ := Lib.hid (show j + 1 ≤ N ∧ N < j + 1 + (N - j) by omega)
        have hjt : (j : Int).toNat = j := by omega
        have e0 := hO.cell j 0 hjl (by omega)
        have e1 := hO.cell j 1 hjl (by omega)
        have e2 := hO.cell j 2 hjl (by omega)
        have e3 := hO.cell j 3 hjl (by omega)
        have e4 := hO.cell j 4 hjl (by omega)
        have e5 := hO.cell j 5 hjl (by omega)
        have e6 := hO.cell j 6 hjl (by omega)
        have e7 := hO.cell j 7 hjl (by omega)
        have e8 := hO.cell j 8 hjl (by omega)
        have hlf := HLT.out j hjl hj
        have htk := foldN_take T.fixed T.ops j hjl
        obtain ⟨x, hx⟩ : ∃ x, x = T.ops[j] := ⟨_, rfl⟩
        rw [← hx] at e0 e1 e2 e3 e4 e5 e6 e7 e8 hlf htk
        simp only [Opn.cs, Nat.add_zero, List.getElem?_cons_zero, List.getElem?_cons_succ] at e0 e1 e2 e3 e4 e5 e6 e7 e8
        obtain ⟨xk, ⟨xa, xb⟩, ⟨xc, xd⟩, ⟨xe, xf⟩, xn, xv⟩ := x
        have HTK := Lib.hid htk
        have hle : ∀ W, Calls Tryd.prog 37 #[.agg #[.int .i64 t, .int .i64 u], .agg #[.int .i64 xa, .int .i64 xb]] W (Ret (.bool false) W) := fun W => by
          have := less_any t u xa xb W
          rw [show lessP t u xa xb = false from hlf] at this
          exact this
        have HLE := Lib.hid hle
        have hgw : g < wr.heap.size := hO.lt rfl
        have hgb : g ≠ bf := hne2 g rfl
        have hdo := fun W (hW : Below wr.heap.size wr W) => do_any W bf (foldN T.fixed (T.ops.take j)) xk xa xb xc xd xe xf xn xv (hN.of_block (hW.block _ hN.1.lt)) (wf_fold HI.out.wf _).rooted
        have HDO := Lib.hid hdo
        have K4 : ∀ w' : World, Below wr.heap.size wr w' → (w'.cell? ⟨tb, 2, none⟩ = some (.slice (some ⟨g, 0, none⟩) T.ops.length cap) ∧ w'.cell? ⟨w.heap.size, 0, none⟩ = some (.int .i64 t) ∧ w'.cell? ⟨w.heap.size, 1, none⟩ = some (.int .i64 u) ∧ w'.cell? ⟨g, j * 9 + 1, none⟩ = some (.int .i64 xa) ∧ w'.cell? ⟨g, j * 9 + 2, none⟩ = some (.int .i64 xb) ∧ Below wr.heap.size wr w') := fun w' hw => by
          obtain ⟨hc, hf⟩ := bcell hw
          exact ⟨(hc _ _ hX.lt).trans (hX.cell 2 rfl), (hc _ _ hB.lt).trans (hB.cell 0 rfl), (hc _ _ hB.lt).trans (hB.cell 1 rfl), (hc _ _ hgw).trans e1, (hc _ _ hgw).trans e2, hw⟩
        have K5 : ∀ w' : World, Fr [bf] wr w' → (w'.cell? ⟨tb, 0, none⟩ = some (.map (some bf)) ∧ w'.cell? ⟨tb, 2, none⟩ = some (.slice (some ⟨g, 0, none⟩) T.ops.length cap) ∧ w'.cell? ⟨g, j * 9, none⟩ = some (.int .i64 xk) ∧ w'.cell? ⟨g, j * 9 + 1, none⟩ = some (.int .i64 xa) ∧ w'.cell? ⟨g, j * 9 + 2, none⟩ = some (.int .i64 xb) ∧ w'.cell? ⟨g, j * 9 + 3, none⟩ = some (.int .i64 xc) ∧ w'.cell? ⟨g, j * 9 + 4, none⟩ = some (.int .i64 xd) ∧ w'.cell? ⟨g, j * 9 + 5, none⟩ = some (.int .i64 xe) ∧ w'.cell? ⟨g, j * 9 + 6, none⟩ = some (.int .i64 xf) ∧ w'.cell? ⟨g, j * 9 + 7, none⟩ = some (.string xn) ∧ w'.cell? ⟨g, j * 9 + 8, none⟩ = some (.string xv)) := fun w' hw => by
          have hcg : ∀ o, w'.cell? ⟨g, o, none⟩ = wr.cell? ⟨g, o, none⟩ := fun o => hw.cell (p := ⟨g, o, none⟩) hgw (by simpa using hgb)
          have hct : ∀ o, w'.cell? ⟨tb, o, none⟩ = wr.cell? ⟨tb, o, none⟩ := fun o => hw.cell (p := ⟨tb, o, none⟩) hX.lt (by simpa using hne1)
          exact ⟨(hct _).trans (hX.cell 0 rfl), (hct _).trans (hX.cell 2 rfl), (hcg _).trans e0, (hcg _).trans e1, (hcg _).trans e2, (hcg _).trans e3, (hcg _).trans e4, (hcg _).trans e5, (hcg _).trans e6, (hcg _).trans e7, (hcg _).trans e8⟩
        have hk0 : Below wr.heap.size wr wr.drew := (Below.refl _ _).drew
        clear hle hdo htk hlf hx
        go_wp2
        go_region_held3 (fun w' => w'.cell? ⟨tb, 2, none⟩ = some (.slice (some ⟨g, 0, none⟩) T.ops.length cap) ∧ w'.cell? ⟨w.heap.size, 0, none⟩ = some (.int .i64 t) ∧ w'.cell? ⟨w.heap.size, 1, none⟩ = some (.int .i64 u) ∧ w'.cell? ⟨g, j * 9 + 1, none⟩ = some (.int .i64 xa) ∧ w'.cell? ⟨g, j * 9 + 2, none⟩ = some (.int .i64 xb) ∧ Below wr.heap.size wr w') (first | exact K4 _ hk0 | exact K4 _ hk1) ((go_at_call 37; refine (HLE.out _).mono ?_; rintro e w2 ⟨rfl, hb2⟩; have hk1 := below_up hk0 hb2 (Nat.le_refl _)))
        rename_i hgS
        clear hgS
        go_wp2
        have hk2 : Below wr.heap.size wr w2.drew := hk1.drew
        have hf2 : Fr [bf] wr w2.drew := Fr.of_below _ hk2
        go_region_held3 (fun w' => w'.cell? ⟨tb, 0, none⟩ = some (.map (some bf)) ∧ w'.cell? ⟨tb, 2, none⟩ = some (.slice (some ⟨g, 0, none⟩) T.ops.length cap) ∧ w'.cell? ⟨g, j * 9, none⟩ = some (.int .i64 xk) ∧ w'.cell? ⟨g, j * 9 + 1, none⟩ = some (.int .i64 xa) ∧ w'.cell? ⟨g, j * 9 + 2, none⟩ = some (.int .i64 xb) ∧ w'.cell? ⟨g, j * 9 + 3, none⟩ = some (.int .i64 xc) ∧ w'.cell? ⟨g, j * 9 + 4, none⟩ = some (.int .i64 xd) ∧ w'.cell? ⟨g, j * 9 + 5, none⟩ = some (.int .i64 xe) ∧ w'.cell? ⟨g, j * 9 + 6, none⟩ = some (.int .i64 xf) ∧ w'.cell? ⟨g, j * 9 + 7, none⟩ = some (.string xn) ∧ w'.cell? ⟨g, j * 9 + 8, none⟩ = some (.string xv)) (first | exact K5 _ hf2 | exact K5 _ hf3) ((go_at_call 43; refine (HDO.out _ hk2).mono ?_; rintro e w3 ⟨rfl, hN3, hF3⟩; have hf3 := hf2.trans hF3))
        rename_i hgS
        clear hgS
        have hB3 := hB.of_block (hf3.block _ hB.lt (by simpa using hbb))
        have HN3 := Lib.hid hN3
        have HF3 := Lib.hid (hF.trans hf3)
        clear K4 K5 hN3 hF3 hf3 hf2 hk2 hk1
        go_wp2
        go_roundg (N - j)
        case measure => omega
        case rel => exact ⟨j + 1, by first | go_num | (rw [show IntKind.i64.wrap ((j : Int) + 1) = ((j + 1 : Nat) : Int) by rw [IntKind.wrap_i64]; omega]), HJ.out.1, HJ.out.2, hB3, by rw [HTK.out]; exact HN3.out, HF3.out⟩
    · obtain rfl : j = N := by omega
      clear hm HLT
      have hwr : w.heap.size < wr.heap.size := hB.lt
      rcases hcs with ⟨rfl, hnil⟩ | ⟨g, cap, rfl⟩
      · obtain rfl : j = 0 := by rw [hnil] at hNl; simpa using hNl
        have hc2 := hX.cell 2 rfl
        have HDE := Lib.hid (delete_nil)
        go_wp2
        go_region
        have d2 := (hX.of_block (w' := wr.drew) rfl).cell 2 rfl
        have f2 := (hX.of_block (w' := wr.drew) rfl).frozen 2
        have l2 := (hX.of_block (w' := wr.drew) rfl).lt
        go_wp2_with (go_at_call 46; refine (HDE.out _).mono ?_; rintro e w6 ⟨rfl, rfl⟩)
        have hX7 : Blk (wr.setCell ⟨tb, 2, none⟩ (.slice none 0 0)) tb [.map (some bf), .map (some bn), .slice none 0 0, .int .i64 T.base.t, .int .i64 T.base.u] 43 := hX.set 2 _
        have hB7 : Blk (wr.setCell ⟨tb, 2, none⟩ (.slice none 0 0)) w.heap.size [.int .i64 t, .int .i64 u] 28 := hB.set_other (by simp; omega) _
        have hF7 : Fr [tb, bf] w (wr.setCell ⟨tb, 2, none⟩ (.slice none 0 0)) := (hF.mono (fun x hx => Or.inl (by simp at hx; simp [hx]))).setCell (Or.inl (by simp)) _
        have hN7 : NodesL (wr.setCell ⟨tb, 2, none⟩ (.slice none 0 0)) bf (foldN T.fixed (T.ops.take 0)) := hN.of_block (Below.heap_setCell _ _ _ _ (Ne.symm hne1))
        clear d2 f2 l2 hc2
        generalize wr.setCell ⟨tb, 2, none⟩ (.slice none 0 0) = w7 at *
        have HF7 := Lib.hid hF7
        have HN7 := Lib.hid hN7
        have hO7 : OpsAt w7 (.slice none 0 0) (T.ops.drop 0) := H4.out.of_block (fun g hg => by cases hg)
        have HO7 := Lib.hid hO7
        have HNI : Hid (¬ (bn = tb ∨ bn = bf)) := Lib.hid (fun e => e.elim (Ne.symm hne3) (Ne.symm h5))
        have HOW : Hid (∀ g, (Value.slice none 0 0).ownBlock = some g → g ≠ tb) := Lib.hid (fun g hg => by cases hg)
        have HSF : Hid (∀ x ∈ [tb, bf], x ∈ ([tb, bf, bn] ++ (Value.slice none 0 0).ownBlock.toList) ∨ w.heap.size ≤ x) := Lib.hid (fun x hx => Or.inl (by simp at hx; rcases hx with rfl | rfl <;> simp))
        have h6F : (Value.slice none 0 0).ownBlock ≠ some tb := h6
        clear hF7 hN7 hO7
        cases hbl : T.base.lt ⟨t, u⟩
        · have HLB : Hid (∀ W, Calls Tryd.prog 37 #[.agg #[.int .i64 T.base.t, .int .i64 T.base.u], .agg #[.int .i64 t, .int .i64 u]] W (Ret (.bool false) W)) := Lib.hid (fun W => by have := less_any T.base.t T.base.u t u W; rw [show lessP T.base.t T.base.u t u = false from hbl] at this; exact this)
          have HBL := Lib.hid hbl
          clear hbl
          have K8 : ∀ w' : World, Below w7.heap.size w7 w' → (w'.cell? ⟨tb, 3, none⟩ = some (.int .i64 T.base.t) ∧ w'.cell? ⟨tb, 4, none⟩ = some (.int .i64 T.base.u) ∧ w'.cell? ⟨w.heap.size, 0, none⟩ = some (.int .i64 t) ∧ w'.cell? ⟨w.heap.size, 1, none⟩ = some (.int .i64 u) ∧ Below w7.heap.size w7 w') := fun w' hw => by
            obtain ⟨hc, hf⟩ := bcell hw
            exact ⟨(hc _ _ hX7.lt).trans (hX7.cell 3 rfl), (hc _ _ hX7.lt).trans (hX7.cell 4 rfl), (hc _ _ hB7.lt).trans (hB7.cell 0 rfl), (hc _ _ hB7.lt).trans (hB7.cell 1 rfl), hw⟩
          have hk8 : Below w7.heap.size w7 w7.drew.drew := (Below.refl _ _).drew.drew
          go_region_held3 (fun w' => w'.cell? ⟨tb, 3, none⟩ = some (.int .i64 T.base.t) ∧ w'.cell? ⟨tb, 4, none⟩ = some (.int .i64 T.base.u) ∧ w'.cell? ⟨w.heap.size, 0, none⟩ = some (.int .i64 t) ∧ w'.cell? ⟨w.heap.size, 1, none⟩ = some (.int .i64 u) ∧ Below w7.heap.size w7 w') (first | exact K8 _ hk8 | exact K8 _ hk9) ((go_at_call 37; refine (HLB.out _).mono ?_; rintro e w9 ⟨rfl, hb9⟩; have hk9 := below_up hk8 hb9 (Nat.le_refl _)))
          rename_i hgS
          clear hgS K8
          have hX9 := hX7.below hk9 hX7.lt
          have hB9 := hB7.below hk9 hB7.lt
          have q0 := hB9.cell 0 rfl
          have q1 := hB9.cell 1 rfl
          have t3 := hX9.cell 3 rfl
          have t4 := hX9.cell 4 rfl
          have f3 := hX9.frozen 3
          have f4 := hX9.frozen 4
          have l9 := hX9.lt
          go_wp2
          go_ret
          have hN9 := HN7.out.of_block (hk9.block _ HN7.out.1.lt)
          have hM9 := (H3.out.of_block (HF7.out.block _ H3.out.1.lt (by simpa using HNI.out))).of_block (hk9.block _ (by have := H3.out.1.lt; have := HF7.out.size; omega))
          have hO9 : OpsAt w9 (.slice none 0 0) (T.ops.drop 0) := HO7.out.of_block (fun g hg => hk9.block _ (HO7.out.lt hg))
          have hF9 := HF7.out.trans (Fr.of_below _ hk9)
          refine compacted_mk (svF := (.slice none 0 0)) HC.out (by simp only [HBL.out, Bool.false_eq_true, if_false]; exact hX9) hN9 hM9 hO9 rfl h5 h6F (hF9.mono ?_)
          exact HSF.out
        · have HLB : Hid (∀ W, Calls Tryd.prog 37 #[.agg #[.int .i64 T.base.t, .int .i64 T.base.u], .agg #[.int .i64 t, .int .i64 u]] W (Ret (.bool true) W)) := Lib.hid (fun W => by have := less_any T.base.t T.base.u t u W; rw [show lessP T.base.t T.base.u t u = true from hbl] at this; exact this)
          have HBL := Lib.hid hbl
          clear hbl
          have K8 : ∀ w' : World, Below w7.heap.size w7 w' → (w'.cell? ⟨tb, 3, none⟩ = some (.int .i64 T.base.t) ∧ w'.cell? ⟨tb, 4, none⟩ = some (.int .i64 T.base.u) ∧ w'.cell? ⟨w.heap.size, 0, none⟩ = some (.int .i64 t) ∧ w'.cell? ⟨w.heap.size, 1, none⟩ = some (.int .i64 u) ∧ Below w7.heap.size w7 w') := fun w' hw => by
            obtain ⟨hc, hf⟩ := bcell hw
            exact ⟨(hc _ _ hX7.lt).trans (hX7.cell 3 rfl), (hc _ _ hX7.lt).trans (hX7.cell 4 rfl), (hc _ _ hB7.lt).trans (hB7.cell 0 rfl), (hc _ _ hB7.lt).trans (hB7.cell 1 rfl), hw⟩
          have hk8 : Below w7.heap.size w7 w7.drew.drew := (Below.refl _ _).drew.drew
          go_region_held3 (fun w' => w'.cell? ⟨tb, 3, none⟩ = some (.int .i64 T.base.t) ∧ w'.cell? ⟨tb, 4, none⟩ = some (.int .i64 T.base.u) ∧ w'.cell? ⟨w.heap.size, 0, none⟩ = some (.int .i64 t) ∧ w'.cell? ⟨w.heap.size, 1, none⟩ = some (.int .i64 u) ∧ Below w7.heap.size w7 w') (first | exact K8 _ hk8 | exact K8 _ hk9) ((go_at_call 37; refine (HLB.out _).mono ?_; rintro e w9 ⟨rfl, hb9⟩; have hk9 := below_up hk8 hb9 (Nat.le_refl _)))
          rename_i hgS
          clear hgS K8
          have hX9 := hX7.below hk9 hX7.lt
          have hB9 := hB7.below hk9 hB7.lt
          have q0 := hB9.cell 0 rfl
          have q1 := hB9.cell 1 rfl
          have t3 := hX9.cell 3 rfl
          have t4 := hX9.cell 4 rfl
          have f3 := hX9.frozen 3
          have f4 := hX9.frozen 4
          have l9 := hX9.lt
          go_wp2
          go_ret
          have hN9 := HN7.out.of_block (hk9.block _ HN7.out.1.lt)
          have hM9 := (H3.out.of_block (HF7.out.block _ H3.out.1.lt (by simpa using HNI.out))).of_block (hk9.block _ (by have := H3.out.1.lt; have := HF7.out.size; omega))
          have hO9 : OpsAt w9 (.slice none 0 0) (T.ops.drop 0) := HO7.out.of_block (fun g hg => hk9.block _ (HO7.out.lt hg))
          have hF9 := HF7.out.trans (Fr.of_below _ hk9)
          refine compacted_mk (svF := (.slice none 0 0)) HC.out (by simp only [HBL.out, if_true]; exact (hX9.set 3 _).set 4 _) (hN9.of_block ?_) (hM9.of_block ?_) (hO9.of_block ?_) rfl h5 h6F (((hF9.mono ?_).setCell (Or.inl (by simp)) _).setCell (Or.inl (by simp)) _)
          · rw [Below.heap_setCell _ _ _ _ (Ne.symm hne1), Below.heap_setCell _ _ _ _ (Ne.symm hne1)]
          · rw [Below.heap_setCell _ _ _ _ (Ne.symm hne3), Below.heap_setCell _ _ _ _ (Ne.symm hne3)]
          · intro g' hg'
            rw [Below.heap_setCell _ _ _ _ (HOW.out g' hg'), Below.heap_setCell _ _ _ _ (HOW.out g' hg')]
          · exact HSF.out
      · by_cases hjl : j < T.ops.length
        · have hjl2 : (j : Int) < T.ops.length := by omega
          have hjl3 : decide ((j : Int) < (T.ops.length : Int)) = true := by simpa using hjl
          have hj0 : (0 : Int) ≤ j := by omega
          have hjt : (j : Int).toNat = j := by omega
          have e1 := hO.cell j 1 hjl (by omega)
          have e2 := hO.cell j 2 hjl (by omega)
          have hlf := HAT.out hjl
          obtain ⟨x, hx⟩ : ∃ x, x = T.ops[j] := ⟨_, rfl⟩
          rw [← hx] at e1 e2 hlf
          simp only [Opn.cs, Nat.add_zero, List.getElem?_cons_zero, List.getElem?_cons_succ] at e1 e2
          obtain ⟨xk, ⟨xa, xb⟩, ⟨xc, xd⟩, ⟨xe, xf⟩, xn, xv⟩ := x
          have hle : ∀ W, Calls Tryd.prog 37 #[.agg #[.int .i64 t, .int .i64 u], .agg #[.int .i64 xa, .int .i64 xb]] W (Ret (.bool true) W) := fun W => by
            have := less_any t u xa xb W
            rw [show lessP t u xa xb = true from hlf] at this
            exact this
          have HLE := Lib.hid hle
          have hgw : g < wr.heap.size := hO.lt rfl
          have K4 : ∀ w' : World, Below wr.heap.size wr w' → (w'.cell? ⟨tb, 2, none⟩ = some (.slice (some ⟨g, 0, none⟩) T.ops.length cap) ∧ w'.cell? ⟨w.heap.size, 0, none⟩ = some (.int .i64 t) ∧ w'.cell? ⟨w.heap.size, 1, none⟩ = some (.int .i64 u) ∧ w'.cell? ⟨g, j * 9 + 1, none⟩ = some (.int .i64 xa) ∧ w'.cell? ⟨g, j * 9 + 2, none⟩ = some (.int .i64 xb) ∧ Below wr.heap.size wr w') := fun w' hw => by
            obtain ⟨hc, hf⟩ := bcell hw
            exact ⟨(hc _ _ hX.lt).trans (hX.cell 2 rfl), (hc _ _ hB.lt).trans (hB.cell 0 rfl), (hc _ _ hB.lt).trans (hB.cell 1 rfl), (hc _ _ hgw).trans e1, (hc _ _ hgw).trans e2, hw⟩
          have hk0 : Below wr.heap.size wr wr.drew := (Below.refl _ _).drew
          clear hle hlf hx
          go_wp2
          go_region_held3 (fun w' => w'.cell? ⟨tb, 2, none⟩ = some (.slice (some ⟨g, 0, none⟩) T.ops.length cap) ∧ w'.cell? ⟨w.heap.size, 0, none⟩ = some (.int .i64 t) ∧ w'.cell? ⟨w.heap.size, 1, none⟩ = some (.int .i64 u) ∧ w'.cell? ⟨g, j * 9 + 1, none⟩ = some (.int .i64 xa) ∧ w'.cell? ⟨g, j * 9 + 2, none⟩ = some (.int .i64 xb) ∧ Below wr.heap.size wr w') (first | exact K4 _ hk0 | exact K4 _ hk1) ((go_at_call 37; refine (HLE.out _).mono ?_; rintro e w2 ⟨rfl, hb2⟩; have hk1 := below_up hk0 hb2 (Nat.le_refl _)))
          rename_i hgS
          clear hgS K4
          have hfd : Fr [] wr w2 := Fr.of_below _ hk1
          clear hk0
          have HDE := Lib.hid (delete_row w2 T.ops g cap j (hO.of_block (fun g' hg' => hfd.block _ (hO.lt hg') (by simp))) (by have := HI.out.few; omega) hNl)
          have hXd := hX.of_block (hfd.block _ hX.lt (by simp))
          have hBd := hB.of_block (hfd.block _ hB.lt (by simp))
          have hgt : tb ≠ g := fun e => h6 (by rw [e]; rfl)
          have hgx : w.heap.size ≠ g := by have := HLG.out g rfl; omega
          have hkk : ∀ w6, Fr [g] w2 w6 → Blk w6 tb [.map (some bf), .map (some bn), .slice (some ⟨g, 0, none⟩) T.ops.length cap, .int .i64 T.base.t, .int .i64 T.base.u] 43 ∧ Blk w6 w.heap.size [.int .i64 t, .int .i64 u] 28 := fun w6 hf =>
            ⟨hXd.of_block (hf.block _ hXd.lt (by simpa using hgt)), hBd.of_block (hf.block _ hBd.lt (by simpa using hgx))⟩
          have HK := Lib.hid hkk
          have t2 := hXd.cell 2 rfl
          clear hkk
          go_wp2_with (go_at_call 46; refine HDE.out.mono ?_; rintro e w6 ⟨rfl, ho, hf⟩; have HO := Lib.hid ho; have HFF := Lib.hid hf; have h16 := (HK.out _ hf).1; have c2 := h16.cell 2 rfl; have f2 := h16.frozen 2; have l6 := h16.lt; clear ho hf)
          have hX7 : Blk (w6.setCell ⟨tb, 2, none⟩ (.slice (some ⟨g, 0, none⟩) (T.ops.length - j) cap)) tb [.map (some bf), .map (some bn), (.slice (some ⟨g, 0, none⟩) (T.ops.length - j) cap), .int .i64 T.base.t, .int .i64 T.base.u] 43 := h16.set 2 _
          have hB7 : Blk (w6.setCell ⟨tb, 2, none⟩ (.slice (some ⟨g, 0, none⟩) (T.ops.length - j) cap)) w.heap.size [.int .i64 t, .int .i64 u] 28 := (HK.out _ HFF.out).2.set_other (by simp; omega) _
          have hF7 : Fr [tb, bf, g] w (w6.setCell ⟨tb, 2, none⟩ (.slice (some ⟨g, 0, none⟩) (T.ops.length - j) cap)) := (((hF.mono (fun x hx => Or.inl (by simp at hx; simp [hx]))).trans (hfd.mono (fun x hx => by cases hx))).trans (HFF.out.mono (fun x hx => Or.inl (by simp at hx; simp [hx])))).setCell (Or.inl (by simp)) _
          have hN7 : NodesL (w6.setCell ⟨tb, 2, none⟩ (.slice (some ⟨g, 0, none⟩) (T.ops.length - j) cap)) bf (foldN T.fixed (T.ops.take j)) := ((hN.of_block (hfd.block _ hN.1.lt (by simp))).of_block (HFF.out.block _ (Nat.lt_of_lt_of_le hN.1.lt hfd.size) (by simpa using Ne.symm (hne2 g rfl)))).of_block (Below.heap_setCell _ _ _ _ (Ne.symm hne1))
          have hO7 : OpsAt (w6.setCell ⟨tb, 2, none⟩ (.slice (some ⟨g, 0, none⟩) (T.ops.length - j) cap)) (.slice (some ⟨g, 0, none⟩) (T.ops.length - j) cap) (T.ops.drop j) := HO.out.of_block (fun g' hg' => Below.heap_setCell _ _ _ _ (by rw [show g' = g by simpa [Value.ownBlock] using hg'.symm]; exact Ne.symm hgt))
          clear t2 c2 f2 l6 h16 HK HO HFF HDE
          generalize w6.setCell ⟨tb, 2, none⟩ (.slice (some ⟨g, 0, none⟩) (T.ops.length - j) cap) = w7 at *
          have HF7 := Lib.hid hF7
          have HN7 := Lib.hid hN7
          have HO7 := Lib.hid hO7
          have HNI : Hid (¬ (bn = tb ∨ bn = bf ∨ bn = g)) := Lib.hid (fun e => e.elim (Ne.symm hne3) (fun e => e.elim (Ne.symm h5) (Ne.symm (hne4 g rfl))))
          have HOW : Hid (∀ g', (Value.slice (some ⟨g, 0, none⟩) (T.ops.length - j) cap).ownBlock = some g' → g' ≠ tb) := Lib.hid (fun g' hg' => by rw [show g' = g by simpa [Value.ownBlock] using hg'.symm]; exact Ne.symm hgt)
          have HSF : Hid (∀ x ∈ [tb, bf, g], x ∈ ([tb, bf, bn] ++ (Value.slice (some ⟨g, 0, none⟩) (T.ops.length - j) cap).ownBlock.toList) ∨ w.heap.size ≤ x) := Lib.hid (fun x hx => Or.inl (by simp at hx; rcases hx with rfl | rfl | rfl <;> simp [Value.ownBlock]))
          have h6F : (Value.slice (some ⟨g, 0, none⟩) (T.ops.length - j) cap).ownBlock ≠ some tb := h6
          clear hF7 hN7 hO7
          cases hbl : T.base.lt ⟨t, u⟩
          · have HLB : Hid (∀ W, Calls Tryd.prog 37 #[.agg #[.int .i64 T.base.t, .int .i64 T.base.u], .agg #[.int .i64 t, .int .i64 u]] W (Ret (.bool false) W)) := Lib.hid (fun W => by have := less_any T.base.t T.base.u t u W; rw [show lessP T.base.t T.base.u t u = false from hbl] at this; exact this)
            have HBL := Lib.hid hbl
            clear hbl
            have K8 : ∀ w' : World, Below w7.heap.size w7 w' → (w'.cell? ⟨tb, 3, none⟩ = some (.int .i64 T.base.t) ∧ w'.cell? ⟨tb, 4, none⟩ = some (.int .i64 T.base.u) ∧ w'.cell? ⟨w.heap.size, 0, none⟩ = some (.int .i64 t) ∧ w'.cell? ⟨w.heap.size, 1, none⟩ = some (.int .i64 u) ∧ Below w7.heap.size w7 w') := fun w' hw => by
              obtain ⟨hc, hf⟩ := bcell hw
              exact ⟨(hc _ _ hX7.lt).trans (hX7.cell 3 rfl), (hc _ _ hX7.lt).trans (hX7.cell 4 rfl), (hc _ _ hB7.lt).trans (hB7.cell 0 rfl), (hc _ _ hB7.lt).trans (hB7.cell 1 rfl), hw⟩
            have hk8 : Below w7.heap.size w7 w7.drew := (Below.refl _ _).drew
            go_region_held3 (fun w' => w'.cell? ⟨tb, 3, none⟩ = some (.int .i64 T.base.t) ∧ w'.cell? ⟨tb, 4, none⟩ = some (.int .i64 T.base.u) ∧ w'.cell? ⟨w.heap.size, 0, none⟩ = some (.int .i64 t) ∧ w'.cell? ⟨w.heap.size, 1, none⟩ = some (.int .i64 u) ∧ Below w7.heap.size w7 w') (first | exact K8 _ hk8 | exact K8 _ hk9) ((go_at_call 37; refine (HLB.out _).mono ?_; rintro e w9 ⟨rfl, hb9⟩; have hk9 := below_up hk8 hb9 (Nat.le_refl _)))
            rename_i hgS
            clear hgS K8
            have hX9 := hX7.below hk9 hX7.lt
            have hB9 := hB7.below hk9 hB7.lt
            have q0 := hB9.cell 0 rfl
            have q1 := hB9.cell 1 rfl
            have t3 := hX9.cell 3 rfl
            have t4 := hX9.cell 4 rfl
            have f3 := hX9.frozen 3
            have f4 := hX9.frozen 4
            have l9 := hX9.lt
            go_wp2
            go_ret
            have hN9 := HN7.out.of_block (hk9.block _ HN7.out.1.lt)
            have hM9 := (H3.out.of_block (HF7.out.block _ H3.out.1.lt (by simpa using HNI.out))).of_block (hk9.block _ (by have := H3.out.1.lt; have := HF7.out.size; omega))
            have hO9 : OpsAt w9 (.slice (some ⟨g, 0, none⟩) (T.ops.length - j) cap) (T.ops.drop j) := HO7.out.of_block (fun g hg => hk9.block _ (HO7.out.lt hg))
            have hF9 := HF7.out.trans (Fr.of_below _ hk9)
            have h9 : Compacted tb ([tb, bf, bn] ++ (Value.slice (some ⟨g, 0, none⟩) (T.ops.length - j) cap).ownBlock.toList) T ⟨t, u⟩ w (.returned (.int .i64 j)) w9 := by
              refine compacted_mk (svF := (.slice (some ⟨g, 0, none⟩) (T.ops.length - j) cap)) HC.out (by simp only [HBL.out, Bool.false_eq_true, if_false]; exact hX9) hN9 hM9 hO9 rfl h5 h6F (hF9.mono ?_)
              exact HSF.out
            exact h9
          · have HLB : Hid (∀ W, Calls Tryd.prog 37 #[.agg #[.int .i64 T.base.t, .int .i64 T.base.u], .agg #[.int .i64 t, .int .i64 u]] W (Ret (.bool true) W)) := Lib.hid (fun W => by have := less_any T.base.t T.base.u t u W; rw [show lessP T.base.t T.base.u t u = true from hbl] at this; exact this)
            have HBL := Lib.hid hbl
            clear hbl
            have K8 : ∀ w' : World, Below w7.heap.size w7 w' → (w'.cell? ⟨tb, 3, none⟩ = some (.int .i64 T.base.t) ∧ w'.cell? ⟨tb, 4, none⟩ = some (.int .i64 T.base.u) ∧ w'.cell? ⟨w.heap.size, 0, none⟩ = some (.int .i64 t) ∧ w'.cell? ⟨w.heap.size, 1, none⟩ = some (.int .i64 u) ∧ Below w7.heap.size w7 w') := fun w' hw => by
              obtain ⟨hc, hf⟩ := bcell hw
              exact ⟨(hc _ _ hX7.lt).trans (hX7.cell 3 rfl), (hc _ _ hX7.lt).trans (hX7.cell 4 rfl), (hc _ _ hB7.lt).trans (hB7.cell 0 rfl), (hc _ _ hB7.lt).trans (hB7.cell 1 rfl), hw⟩
            have hk8 : Below w7.heap.size w7 w7.drew := (Below.refl _ _).drew
            go_region_held3 (fun w' => w'.cell? ⟨tb, 3, none⟩ = some (.int .i64 T.base.t) ∧ w'.cell? ⟨tb, 4, none⟩ = some (.int .i64 T.base.u) ∧ w'.cell? ⟨w.heap.size, 0, none⟩ = some (.int .i64 t) ∧ w'.cell? ⟨w.heap.size, 1, none⟩ = some (.int .i64 u) ∧ Below w7.heap.size w7 w') (first | exact K8 _ hk8 | exact K8 _ hk9) ((go_at_call 37; refine (HLB.out _).mono ?_; rintro e w9 ⟨rfl, hb9⟩; have hk9 := below_up hk8 hb9 (Nat.le_refl _)))
            rename_i hgS
            clear hgS K8
            have hX9 := hX7.below hk9 hX7.lt
            have hB9 := hB7.below hk9 hB7.lt
            have q0 := hB9.cell 0 rfl
            have q1 := hB9.cell 1 rfl
            have t3 := hX9.cell 3 rfl
            have t4 := hX9.cell 4 rfl
            have f3 := hX9.frozen 3
            have f4 := hX9.frozen 4
            have l9 := hX9.lt
            go_wp2
            go_ret
            have hN9 := HN7.out.of_block (hk9.block _ HN7.out.1.lt)
            have hM9 := (H3.out.of_block (HF7.out.block _ H3.out.1.lt (by simpa using HNI.out))).of_block (hk9.block _ (by have := H3.out.1.lt; have := HF7.out.size; omega))
            have hO9 : OpsAt w9 (.slice (some ⟨g, 0, none⟩) (T.ops.length - j) cap) (T.ops.drop j) := HO7.out.of_block (fun g hg => hk9.block _ (HO7.out.lt hg))
            have hF9 := HF7.out.trans (Fr.of_below _ hk9)
            have h9 : Compacted tb ([tb, bf, bn] ++ (Value.slice (some ⟨g, 0, none⟩) (T.ops.length - j) cap).ownBlock.toList) T ⟨t, u⟩ w (.returned (.int .i64 j)) ((w9.setCell ⟨tb, 3, none⟩ (.int .i64 t)).setCell ⟨tb, 4, none⟩ (.int .i64 u)) := by
              refine compacted_mk (svF := (.slice (some ⟨g, 0, none⟩) (T.ops.length - j) cap)) HC.out (by simp only [HBL.out, if_true]; exact (hX9.set 3 _).set 4 _) (hN9.of_block ?_) (hM9.of_block ?_) (hO9.of_block ?_) rfl h5 h6F (((hF9.mono ?_).setCell (Or.inl (by simp)) _).setCell (Or.inl (by simp)) _)
              · rw [Below.heap_setCell _ _ _ _ (Ne.symm hne1), Below.heap_setCell _ _ _ _ (Ne.symm hne1)]
              · rw [Below.heap_setCell _ _ _ _ (Ne.symm hne3), Below.heap_setCell _ _ _ _ (Ne.symm hne3)]
              · intro g' hg'
                rw [Below.heap_setCell _ _ _ _ (HOW.out g' hg'), Below.heap_setCell _ _ _ _ (HOW.out g' hg')]
              · exact HSF.out
            exact h9
        · have hc2 := hX.cell 2 rfl
          have hjz : decide ((j : Int) < (T.ops.length : Int)) = false := by simpa using hjl
          have hfd : Fr [] wr wr.drew := (Fr.refl _ _).drew
          go_wp2
          go_region
          have HDE := Lib.hid (delete_row wr.drew T.ops g cap j (hO.of_block (fun g' hg' => hfd.block _ (hO.lt hg') (by simp))) (by have := HI.out.few; omega) hNl)
          have hXd := hX.of_block (hfd.block _ hX.lt (by simp))
          have hBd := hB.of_block (hfd.block _ hB.lt (by simp))
          have hgt : tb ≠ g := fun e => h6 (by rw [e]; rfl)
          have hgx : w.heap.size ≠ g := by have := HLG.out g rfl; omega
          have hkk : ∀ w6, Fr [g] wr.drew w6 → Blk w6 tb [.map (some bf), .map (some bn), .slice (some ⟨g, 0, none⟩) T.ops.length cap, .int .i64 T.base.t, .int .i64 T.base.u] 43 ∧ Blk w6 w.heap.size [.int .i64 t, .int .i64 u] 28 := fun w6 hf =>
            ⟨hXd.of_block (hf.block _ hXd.lt (by simpa using hgt)), hBd.of_block (hf.block _ hBd.lt (by simpa using hgx))⟩
          have HK := Lib.hid hkk
          have t2 := hXd.cell 2 rfl
          clear hkk
          go_wp2_with (go_at_call 46; refine HDE.out.mono ?_; rintro e w6 ⟨rfl, ho, hf⟩; have HO := Lib.hid ho; have HFF := Lib.hid hf; have h16 := (HK.out _ hf).1; have c2 := h16.cell 2 rfl; have f2 := h16.frozen 2; have l6 := h16.lt; clear ho hf)
          have hX7 : Blk (w6.setCell ⟨tb, 2, none⟩ (.slice (some ⟨g, 0, none⟩) (T.ops.length - j) cap)) tb [.map (some bf), .map (some bn), (.slice (some ⟨g, 0, none⟩) (T.ops.length - j) cap), .int .i64 T.base.t, .int .i64 T.base.u] 43 := h16.set 2 _
          have hB7 : Blk (w6.setCell ⟨tb, 2, none⟩ (.slice (some ⟨g, 0, none⟩) (T.ops.length - j) cap)) w.heap.size [.int .i64 t, .int .i64 u] 28 := (HK.out _ HFF.out).2.set_other (by simp; omega) _
          have hF7 : Fr [tb, bf, g] w (w6.setCell ⟨tb, 2, none⟩ (.slice (some ⟨g, 0, none⟩) (T.ops.length - j) cap)) := (((hF.mono (fun x hx => Or.inl (by simp at hx; simp [hx]))).trans (hfd.mono (fun x hx => by cases hx))).trans (HFF.out.mono (fun x hx => Or.inl (by simp at hx; simp [hx])))).setCell (Or.inl (by simp)) _
          have hN7 : NodesL (w6.setCell ⟨tb, 2, none⟩ (.slice (some ⟨g, 0, none⟩) (T.ops.length - j) cap)) bf (foldN T.fixed (T.ops.take j)) := ((hN.of_block (hfd.block _ hN.1.lt (by simp))).of_block (HFF.out.block _ (Nat.lt_of_lt_of_le hN.1.lt hfd.size) (by simpa using Ne.symm (hne2 g rfl)))).of_block (Below.heap_setCell _ _ _ _ (Ne.symm hne1))
          have hO7 : OpsAt (w6.setCell ⟨tb, 2, none⟩ (.slice (some ⟨g, 0, none⟩) (T.ops.length - j) cap)) (.slice (some ⟨g, 0, none⟩) (T.ops.length - j) cap) (T.ops.drop j) := HO.out.of_block (fun g' hg' => Below.heap_setCell _ _ _ _ (by rw [show g' = g by simpa [Value.ownBlock] using hg'.symm]; exact Ne.symm hgt))
          clear t2 c2 f2 l6 h16 HK HO HFF HDE
          generalize w6.setCell ⟨tb, 2, none⟩ (.slice (some ⟨g, 0, none⟩) (T.ops.length - j) cap) = w7 at *
          have HF7 := Lib.hid hF7
          have HN7 := Lib.hid hN7
          have HO7 := Lib.hid hO7
          have HNI : Hid (¬ (bn = tb ∨ bn = bf ∨ bn = g)) := Lib.hid (fun e => e.elim (Ne.symm hne3) (fun e => e.elim (Ne.symm h5) (Ne.symm (hne4 g rfl))))
          have HOW : Hid (∀ g', (Value.slice (some ⟨g, 0, none⟩) (T.ops.length - j) cap).ownBlock = some g' → g' ≠ tb) := Lib.hid (fun g' hg' => by rw [show g' = g by simpa [Value.ownBlock] using hg'.symm]; exact Ne.symm hgt)
          have HSF : Hid (∀ x ∈ [tb, bf, g], x ∈ ([tb, bf, bn] ++ (Value.slice (some ⟨g, 0, none⟩) (T.ops.length - j) cap).ownBlock.toList) ∨ w.heap.size ≤ x) := Lib.hid (fun x hx => Or.inl (by simp at hx; rcases hx with rfl | rfl | rfl <;> simp [Value.ownBlock]))
          have h6F : (Value.slice (some ⟨g, 0, none⟩) (T.ops.length - j) cap).ownBlock ≠ some tb := h6
          clear hF7 hN7 hO7
          cases hbl : T.base.lt ⟨t, u⟩
          · have HLB : Hid (∀ W, Calls Tryd.prog 37 #[.agg #[.int .i64 T.base.t, .int .i64 T.base.u], .agg #[.int .i64 t, .int .i64 u]] W (Ret (.bool false) W)) := Lib.hid (fun W => by have := less_any T.base.t T.base.u t u W; rw [show lessP T.base.t T.base.u t u = false from hbl] at this; exact this)
            have HBL := Lib.hid hbl
            clear hbl
            have K8 : ∀ w' : World, Below w7.heap.size w7 w' → (w'.cell? ⟨tb, 3, none⟩ = some (.int .i64 T.base.t) ∧ w'.cell? ⟨tb, 4, none⟩ = some (.int .i64 T.base.u) ∧ w'.cell? ⟨w.heap.size, 0, none⟩ = some (.int .i64 t) ∧ w'.cell? ⟨w.heap.size, 1, none⟩ = some (.int .i64 u) ∧ Below w7.heap.size w7 w') := fun w' hw => by
              obtain ⟨hc, hf⟩ := bcell hw
              exact ⟨(hc _ _ hX7.lt).trans (hX7.cell 3 rfl), (hc _ _ hX7.lt).trans (hX7.cell 4 rfl), (hc _ _ hB7.lt).trans (hB7.cell 0 rfl), (hc _ _ hB7.lt).trans (hB7.cell 1 rfl), hw⟩
            have hk8 : Below w7.heap.size w7 w7.drew := (Below.refl _ _).drew
            go_region_held3 (fun w' => w'.cell? ⟨tb, 3, none⟩ = some (.int .i64 T.base.t) ∧ w'.cell? ⟨tb, 4, none⟩ = some (.int .i64 T.base.u) ∧ w'.cell? ⟨w.heap.size, 0, none⟩ = some (.int .i64 t) ∧ w'.cell? ⟨w.heap.size, 1, none⟩ = some (.int .i64 u) ∧ Below w7.heap.size w7 w') (first | exact K8 _ hk8 | exact K8 _ hk9) ((go_at_call 37; refine (HLB.out _).mono ?_; rintro e w9 ⟨rfl, hb9⟩; have hk9 := below_up hk8 hb9 (Nat.le_refl _)))
            rename_i hgS
            clear hgS K8
            have hX9 := hX7.below hk9 hX7.lt
            have hB9 := hB7.below hk9 hB7.lt
            have q0 := hB9.cell 0 rfl
            have q1 := hB9.cell 1 rfl
            have t3 := hX9.cell 3 rfl
            have t4 := hX9.cell 4 rfl
            have f3 := hX9.frozen 3
            have f4 := hX9.frozen 4
            have l9 := hX9.lt
            go_wp2
            go_ret
            have hN9 := HN7.out.of_block (hk9.block _ HN7.out.1.lt)
            have hM9 := (H3.out.of_block (HF7.out.block _ H3.out.1.lt (by simpa using HNI.out))).of_block (hk9.block _ (by have := H3.out.1.lt; have := HF7.out.size; omega))
            have hO9 : OpsAt w9 (.slice (some ⟨g, 0, none⟩) (T.ops.length - j) cap) (T.ops.drop j) := HO7.out.of_block (fun g hg => hk9.block _ (HO7.out.lt hg))
            have hF9 := HF7.out.trans (Fr.of_below _ hk9)
            have h9 : Compacted tb ([tb, bf, bn] ++ (Value.slice (some ⟨g, 0, none⟩) (T.ops.length - j) cap).ownBlock.toList) T ⟨t, u⟩ w (.returned (.int .i64 j)) w9 := by
              refine compacted_mk (svF := (.slice (some ⟨g, 0, none⟩) (T.ops.length - j) cap)) HC.out (by simp only [HBL.out, Bool.false_eq_true, if_false]; exact hX9) hN9 hM9 hO9 rfl h5 h6F (hF9.mono ?_)
              exact HSF.out
            exact h9
          · have HLB : Hid (∀ W, Calls Tryd.prog 37 #[.agg #[.int .i64 T.base.t, .int .i64 T.base.u], .agg #[.int .i64 t, .int .i64 u]] W (Ret (.bool true) W)) := Lib.hid (fun W => by have := less_any T.base.t T.base.u t u W; rw [show lessP T.base.t T.base.u t u = true from hbl] at this; exact this)
            have HBL := Lib.hid hbl
            clear hbl
            have K8 : ∀ w' : World, Below w7.heap.size w7 w' → (w'.cell? ⟨tb, 3, none⟩ = some (.int .i64 T.base.t) ∧ w'.cell? ⟨tb, 4, none⟩ = some (.int .i64 T.base.u) ∧ w'.cell? ⟨w.heap.size, 0, none⟩ = some (.int .i64 t) ∧ w'.cell? ⟨w.heap.size, 1, none⟩ = some (.int .i64 u) ∧ Below w7.heap.size w7 w') := fun w' hw => by
              obtain ⟨hc, hf⟩ := bcell hw
              exact ⟨(hc _ _ hX7.lt).trans (hX7.cell 3 rfl), (hc _ _ hX7.lt).trans (hX7.cell 4 rfl), (hc _ _ hB7.lt).trans (hB7.cell 0 rfl), (hc _ _ hB7.lt).trans (hB7.cell 1 rfl), hw⟩
            have hk8 : Below w7.heap.size w7 w7.drew := (Below.refl _ _).drew
            go_region_held3 (fun w' => w'.cell? ⟨tb, 3, none⟩ = some (.int .i64 T.base.t) ∧ w'.cell? ⟨tb, 4, none⟩ = some (.int .i64 T.base.u) ∧ w'.cell? ⟨w.heap.size, 0, none⟩ = some (.int .i64 t) ∧ w'.cell? ⟨w.heap.size, 1, none⟩ = some (.int .i64 u) ∧ Below w7.heap.size w7 w') (first | exact K8 _ hk8 | exact K8 _ hk9) ((go_at_call 37; refine (HLB.out _).mono ?_; rintro e w9 ⟨rfl, hb9⟩; have hk9 := below_up hk8 hb9 (Nat.le_refl _)))
            rename_i hgS
            clear hgS K8
            have hX9 := hX7.below hk9 hX7.lt
            have hB9 := hB7.below hk9 hB7.lt
            have q0 := hB9.cell 0 rfl
            have q1 := hB9.cell 1 rfl
            have t3 := hX9.cell 3 rfl
            have t4 := hX9.cell 4 rfl
            have f3 := hX9.frozen 3
            have f4 := hX9.frozen 4
            have l9 := hX9.lt
            go_wp2
            go_ret
            have hN9 := HN7.out.of_block (hk9.block _ HN7.out.1.lt)
            have hM9 := (H3.out.of_block (HF7.out.block _ H3.out.1.lt (by simpa using HNI.out))).of_block (hk9.block _ (by have := H3.out.1.lt; have := HF7.out.size; omega))
            have hO9 : OpsAt w9 (.slice (some ⟨g, 0, none⟩) (T.ops.length - j) cap) (T.ops.drop j) := HO7.out.of_block (fun g hg => hk9.block _ (HO7.out.lt hg))
            have hF9 := HF7.out.trans (Fr.of_below _ hk9)
            have h9 : Compacted tb ([tb, bf, bn] ++ (Value.slice (some ⟨g, 0, none⟩) (T.ops.length - j) cap).ownBlock.toList) T ⟨t, u⟩ w (.returned (.int .i64 j)) ((w9.setCell ⟨tb, 3, none⟩ (.int .i64 t)).setCell ⟨tb, 4, none⟩ (.int .i64 u)) := by
              refine compacted_mk (svF := (.slice (some ⟨g, 0, none⟩) (T.ops.length - j) cap)) HC.out (by simp only [HBL.out, if_true]; exact (hX9.set 3 _).set 4 _) (hN9.of_block ?_) (hM9.of_block ?_) (hO9.of_block ?_) rfl h5 h6F (((hF9.mono ?_).setCell (Or.inl (by simp)) _).setCell (Or.inl (by simp)) _)
              · rw [Below.heap_setCell _ _ _ _ (Ne.symm hne1), Below.heap_setCell _ _ _ _ (Ne.symm hne1)]
              · rw [Below.heap_setCell _ _ _ _ (Ne.symm hne3), Below.heap_setCell _ _ _ _ (Ne.symm hne3)]
              · intro g' hg'
                rw [Below.heap_setCell _ _ _ _ (HOW.out g' hg'), Below.heap_setCell _ _ _ _ (HOW.out g' hg')]
              · exact HSF.out
            exact h9
end Go.Proofs.YteghkajegdcbjaaDoor
