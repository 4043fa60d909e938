/-
  Apply of an operation that may be, ahead of nothing that is for good.
-/
import Derived.Test.YteghkajegdcbjaaDoorT22
namespace Go.Proofs.YteghkajegdcbjaaDoor
open Go.RowKit
set_option maxRecDepth 100000
set_option maxHeartbeats 4000000

theorem ops_form {w : World} {sv : Value} {l : List Opn} {o : Opn} {k : Nat} (h : OpsAt w sv (l.take k ++ o :: l.drop k)) : ∃ g cap, sv = .slice (some ⟨g, 0, none⟩) (l.length + 1) cap := by
  have hl : (l.take k ++ o :: l.drop k).length = l.length + 1 := by simp; omega
  rcases h.cases with ⟨_, h1⟩ | ⟨g, cap, h1⟩
  · simp at h1
  · exact ⟨g, cap, by rw [h1, hl]⟩

theorem apply_in (w : World) (tb : Nat) (F : List Nat) (T : Tr) (o : Opn) (h : TreeAt w tb F T) (hI : Inv T) (hT : Tabs w) (hs : o.nm.size ≤ 4611686018427387904) (hb : okOp o = true) (hl : T.base.lt o.at_ = true) :
    Calls Tryd.prog 13 #[.pointer (some ⟨tb, 0, none⟩), o.v] w (Applied tb F T o w) := by
  obtain ⟨k, ⟨a, b⟩, ⟨c, d⟩, ⟨x, y⟩, nm, vl⟩ := o
  have hg : ∀ W, Below w.heap.size w W → Calls Tryd.prog 35 #[.pointer (some ⟨tb, 0, none⟩)] W fun e w' => e = .returned (.bool true) ∧ W = w' := fun W hW => given_any W tb F T (h.below hW h.lt)
  have hc : ∀ W, Below w.heap.size w W → Calls Tryd.prog 36 #[.agg #[.int .i64 k, .int .i64 a, .int .i64 b, .int .i64 c, .int .i64 d, .int .i64 x, .int .i64 y, .string nm, .string vl]] W (Ret (.int .i64 0) W) := fun W hW => by
    have := check_any W ⟨k, ⟨a, b⟩, ⟨c, d⟩, ⟨x, y⟩, nm, vl⟩ hs (Tabs.below hT hW (Nat.le_refl _))
    rw [hb] at this
    exact this
  have hle : ∀ W, Calls Tryd.prog 37 #[.agg #[.int .i64 T.base.t, .int .i64 T.base.u], .agg #[.int .i64 a, .int .i64 b]] W (Ret (.bool true) W) := fun W => by
    have := less_any T.base.t T.base.u a b W
    rw [show lessP T.base.t T.base.u a b = true from hl] at this
    exact this
  have HG := Lib.hid hg
  have HC := Lib.hid hc
  have HL := Lib.hid hle
  have HT := Lib.hid h
  have HI := Lib.hid hI
  have HAP : Hid (applyN T ⟨k, ⟨a, b⟩, ⟨c, d⟩, ⟨x, y⟩, nm, vl⟩ = if thereO T.ops ⟨a, b⟩ = true then (T, 0) else if fullP T k = true then (T, 2) else ({ T with now := foldN T.fixed (insO T.ops ⟨k, ⟨a, b⟩, ⟨c, d⟩, ⟨x, y⟩, nm, vl⟩), ops := insO T.ops ⟨k, ⟨a, b⟩, ⟨c, d⟩, ⟨x, y⟩, nm, vl⟩ }, 0)) := Lib.hid (by
    unfold applyN
    rw [if_neg (by simp [hb, hl])])
  obtain ⟨bf, bn, sv, h1, h2, h3, h4, rfl, h5, h6⟩ := h
  have H2 := Lib.hid h2
  have H3 := Lib.hid h3
  have H5 := Lib.hid h5
  have H6 := Lib.hid h6
  have hB := Blk.at_ w [.int .i64 k, .int .i64 a, .int .i64 b, .int .i64 c, .int .i64 d, .int .i64 x, .int .i64 y, .string nm, .string vl] 30 rfl
  have h1' := h1.alloc (.cells #[.int .i64 k, .int .i64 a, .int .i64 b, .int .i64 c, .int .i64 d, .int .i64 x, .int .i64 y, .string nm, .string vl] 30)
  have hlt := h1.lt
  have hW : Below w.heap.size w (w.alloc (.cells #[.int .i64 k, .int .i64 a, .int .i64 b, .int .i64 c, .int .i64 d, .int .i64 x, .int .i64 y, .string nm, .string vl] 30)) := (Below.refl _ _).alloc (Nat.le_refl _) _
  have hsz : (w.alloc (.cells #[.int .i64 k, .int .i64 a, .int .i64 b, .int .i64 c, .int .i64 d, .int .i64 x, .int .i64 y, .string nm, .string vl] 30)).heap.size = w.heap.size + 1 := by simp
  have HFU := Lib.hid (fun (W : World) (hW : Below w.heap.size w W) => full_any W tb _ T k a b c d x y nm vl (HT.out.below hW HT.out.lt) (by have := hI.room; omega) hI.few)
  have HSE := Lib.hid (fun (W : World) (hW : Below w.heap.size w W) => search_any W sv T.ops a b (h4.of_block (fun g hg => hW.block _ (h4.lt hg))) hI.rise hI.few)
  clear hg hc hle hT hb h2 h3 h5 h6 hl hI
  simp only [Opn.v]
  go_enter Tryd.func13, Tryd.ntmps13
  go_wp2
  generalize w.alloc (.cells #[.int .i64 k, .int .i64 a, .int .i64 b, .int .i64 c, .int .i64 d, .int .i64 x, .int .i64 y, .string nm, .string vl] 30) = W0 at *
  have K : ∀ w' : World, Below W0.heap.size W0 w' → (w'.cell? ⟨w.heap.size, 0, none⟩ = some (.int .i64 k) ∧ w'.cell? ⟨w.heap.size, 1, none⟩ = some (.int .i64 a) ∧ w'.cell? ⟨w.heap.size, 2, none⟩ = some (.int .i64 b) ∧ w'.cell? ⟨w.heap.size, 3, none⟩ = some (.int .i64 c) ∧ w'.cell? ⟨w.heap.size, 4, none⟩ = some (.int .i64 d) ∧ w'.cell? ⟨w.heap.size, 5, none⟩ = some (.int .i64 x) ∧ w'.cell? ⟨w.heap.size, 6, none⟩ = some (.int .i64 y) ∧ w'.cell? ⟨w.heap.size, 7, none⟩ = some (.string nm) ∧ w'.cell? ⟨w.heap.size, 8, none⟩ = some (.string vl) ∧ w'.cell? ⟨tb, 3, none⟩ = some (.int .i64 T.base.t) ∧ w'.cell? ⟨tb, 4, none⟩ = some (.int .i64 T.base.u) ∧ Below W0.heap.size W0 w') := fun w' hw => by
    obtain ⟨hc, hf⟩ := bcell hw
    exact ⟨(hc _ _ hB.lt).trans (hB.cell 0 rfl), (hc _ _ hB.lt).trans (hB.cell 1 rfl), (hc _ _ hB.lt).trans (hB.cell 2 rfl), (hc _ _ hB.lt).trans (hB.cell 3 rfl), (hc _ _ hB.lt).trans (hB.cell 4 rfl), (hc _ _ hB.lt).trans (hB.cell 5 rfl), (hc _ _ hB.lt).trans (hB.cell 6 rfl), (hc _ _ hB.lt).trans (hB.cell 7 rfl), (hc _ _ hB.lt).trans (hB.cell 8 rfl), (hc _ _ h1'.lt).trans (h1'.cell 3 rfl), (hc _ _ h1'.lt).trans (h1'.cell 4 rfl), hw⟩
  have K3 : ∀ w' : World, Below W0.heap.size W0 w' → (w'.cell? ⟨tb, 2, none⟩ = some sv ∧ w'.cell? ⟨w.heap.size, 1, none⟩ = some (.int .i64 a) ∧ w'.cell? ⟨w.heap.size, 2, none⟩ = some (.int .i64 b) ∧ Below W0.heap.size W0 w') := fun w' hw => by
    obtain ⟨hc, hf⟩ := bcell hw
    exact ⟨(hc _ _ h1'.lt).trans (h1'.cell 2 rfl), (hc _ _ hB.lt).trans (hB.cell 1 rfl), (hc _ _ hB.lt).trans (hB.cell 2 rfl), hw⟩
  have hk0 : Below W0.heap.size W0 W0.drew := (Below.refl _ _).drew
  have hup : ∀ w', Below W0.heap.size W0 w' → Below w.heap.size w w' := fun w' hw => below_up hW hw (by omega)
  have HU := Lib.hid hup
  clear hup
  go_region_held3 (fun w' => w'.cell? ⟨w.heap.size, 0, none⟩ = some (.int .i64 k) ∧ w'.cell? ⟨w.heap.size, 1, none⟩ = some (.int .i64 a) ∧ w'.cell? ⟨w.heap.size, 2, none⟩ = some (.int .i64 b) ∧ w'.cell? ⟨w.heap.size, 3, none⟩ = some (.int .i64 c) ∧ w'.cell? ⟨w.heap.size, 4, none⟩ = some (.int .i64 d) ∧ w'.cell? ⟨w.heap.size, 5, none⟩ = some (.int .i64 x) ∧ w'.cell? ⟨w.heap.size, 6, none⟩ = some (.int .i64 y) ∧ w'.cell? ⟨w.heap.size, 7, none⟩ = some (.string nm) ∧ w'.cell? ⟨w.heap.size, 8, none⟩ = some (.string vl) ∧ w'.cell? ⟨tb, 3, none⟩ = some (.int .i64 T.base.t) ∧ w'.cell? ⟨tb, 4, none⟩ = some (.int .i64 T.base.u) ∧ Below W0.heap.size W0 w') (first | exact K _ hk0 | exact K _ hk1 | exact K _ hk2) (first
    | (go_at_call 35; refine (HG.out _ (HU.out _ hk0)).mono ?_; rintro e w1 ⟨rfl, rfl⟩)
    | (go_at_call 36; refine (HC.out _ (HU.out _ hk0)).mono ?_; rintro e w1 ⟨rfl, hb1⟩; have hk1 := below_up hk0 hb1 (Nat.le_refl _))
    | (go_at_call 37; refine (HL.out _).mono ?_; rintro e w2 ⟨rfl, hb2⟩; have hk2 := below_up hk1 hb2 hk1.size))
  rename_i hgS
  clear hgS K hb2 hk1 hb1 w1
  go_wp2
  have hk3 := hk2.drew
  go_region_held3 (fun w' => w'.cell? ⟨tb, 2, none⟩ = some sv ∧ w'.cell? ⟨w.heap.size, 1, none⟩ = some (.int .i64 a) ∧ w'.cell? ⟨w.heap.size, 2, none⟩ = some (.int .i64 b) ∧ Below W0.heap.size W0 w') (first | exact K3 _ hk3 | exact K3 _ hk4) (first
    | (go_at_call 38; refine (HSE.out _ (HU.out _ hk3)).mono ?_; rintro e w4 ⟨kk, hp, rfl, hb4⟩; have HP := Lib.hid hp; clear hp; have hk4 := below_up hk3 hb4 hk3.size))
  rename_i hgS
  clear hgS K3 hb4 hk3 hk2 hk0 HSE HG HC HL w2
  cases hth : thereO T.ops ⟨a, b⟩
  · have HTH := Lib.hid hth
    clear hth
    have h4' : OpsAt w4 sv T.ops := h4.of_block (fun g hg => (HU.out _ hk4).block _ (h4.lt hg))
    have hT4 := HT.out.below (HU.out _ hk4) HT.out.lt
    have hB4 := hB.below hk4 hB.lt
    have h14 := h1'.below hk4 h1'.lt
    have hF4 : Fr [] w w4 := Fr.of_below _ (HU.out _ hk4)
    have hz4 : w.heap.size < w4.heap.size := by have := hk4.size; omega
    cases hfu : fullP T k
    case true =>
      have HR : Hid (applyN T ⟨k, ⟨a, b⟩, ⟨c, d⟩, ⟨x, y⟩, nm, vl⟩ = (T, 2)) := Lib.hid (by rw [HAP.out, if_neg (by rw [HTH.out]; simp), if_pos hfu])
      have hfl := HFU.out _ (HU.out _ hk4)
      rw [hfu] at hfl
      have HFL := Lib.hid hfl
      have q0 := hB4.cell 0 rfl
      have q1 := hB4.cell 1 rfl
      have q2 := hB4.cell 2 rfl
      have q3 := hB4.cell 3 rfl
      have q4 := hB4.cell 4 rfl
      have q5 := hB4.cell 5 rfl
      have q6 := hB4.cell 6 rfl
      have q7 := hB4.cell 7 rfl
      have q8 := hB4.cell 8 rfl
      clear hfl hfu h4' hT4 hF4 HFU
      go_wp2_with (go_at_call 41; refine HFL.out.mono ?_; rintro e w5 ⟨rfl, hb5⟩)
      go_ret
      have hb6 := below_up (HU.out _ hk4) hb5 (Nat.le_of_lt hz4)
      exact ⟨_, by rw [HR.out]; rfl, by rw [HR.out]; exact HT.out.below hb6 HT.out.lt, Fr.of_below _ hb6, fun x hx => Or.inl hx⟩
    case false =>
      have hless : T.ops.length < 512 := by simp [fullP] at hfu; omega
      have HLS := Lib.hid hless
      clear hless
      have HR : Hid (applyN T ⟨k, ⟨a, b⟩, ⟨c, d⟩, ⟨x, y⟩, nm, vl⟩ = ({ T with now := foldN T.fixed (insO T.ops ⟨k, ⟨a, b⟩, ⟨c, d⟩, ⟨x, y⟩, nm, vl⟩), ops := insO T.ops ⟨k, ⟨a, b⟩, ⟨c, d⟩, ⟨x, y⟩, nm, vl⟩ }, 0)) := Lib.hid (by rw [HAP.out, if_neg (by rw [HTH.out]; simp), if_neg (by rw [hfu]; simp)])
      have hfl := HFU.out _ (HU.out _ hk4)
      rw [hfu] at hfl
      have HFL := Lib.hid hfl
      have q0 := hB4.cell 0 rfl
      have q1 := hB4.cell 1 rfl
      have q2 := hB4.cell 2 rfl
      have q3 := hB4.cell 3 rfl
      have q4 := hB4.cell 4 rfl
      have q5 := hB4.cell 5 rfl
      have q6 := hB4.cell 6 rfl
      have q7 := hB4.cell 7 rfl
      have q8 := hB4.cell 8 rfl
      clear hfl hfu HFU h4' hT4 hF4
      go_wp2_with (go_at_call 41; refine HFL.out.mono ?_; rintro e w5 ⟨rfl, hb5⟩)
      have hb6 := below_up (HU.out _ hk4) hb5 (Nat.le_of_lt hz4)
      have hB5 := hB4.below hb5 hB4.lt
      have h15 := h14.below hb5 h14.lt
      have h45 : OpsAt w5 sv T.ops := h4.of_block (fun g hg => hb6.block _ (h4.lt hg))
      clear q0 q1 q2 q3 q4 q5 q6 q7 q8 hB4 h14 hb5 HFL hz4 hk4 w4
      have hsvw : ∀ g, sv.ownBlock = some g → g < w.heap.size := fun g hg => h4.lt hg
      have hWc : Below w5.heap.size w5 (w5.drew.alloc (.cells #[.int .i64 k, .int .i64 a, .int .i64 b, .int .i64 c, .int .i64 d, .int .i64 x, .int .i64 y, .string nm, .string vl] 30)) := (Below.refl _ _).drew.alloc (Nat.le_refl _) _
      have hin := insert_any (w5.drew.alloc (.cells #[.int .i64 k, .int .i64 a, .int .i64 b, .int .i64 c, .int .i64 d, .int .i64 x, .int .i64 y, .string nm, .string vl] 30)) sv T.ops ⟨k, ⟨a, b⟩, ⟨c, d⟩, ⟨x, y⟩, nm, vl⟩ w5.heap.size kk (h45.of_block (fun g hg => hWc.block _ (h45.lt hg))) (Blk.at_ w5.drew [.int .i64 k, .int .i64 a, .int .i64 b, .int .i64 c, .int .i64 d, .int .i64 x, .int .i64 y, .string nm, .string vl] 30 rfl) (fun e => by have := h45.lt e; omega) (by have := HI.out.few; omega) HP.out.1
      have HIN := Lib.hid hin
      have hkk : ∀ w6, Fr sv.ownBlock.toList (w5.drew.alloc (.cells #[.int .i64 k, .int .i64 a, .int .i64 b, .int .i64 c, .int .i64 d, .int .i64 x, .int .i64 y, .string nm, .string vl] 30)) w6 → Blk w6 tb [.map (some bf), .map (some bn), sv, .int .i64 T.base.t, .int .i64 T.base.u] 43 ∧ Blk w6 w.heap.size [.int .i64 k, .int .i64 a, .int .i64 b, .int .i64 c, .int .i64 d, .int .i64 x, .int .i64 y, .string nm, .string vl] 30 := fun w6 hf => by
        have e1 := (hWc.size)
        refine ⟨(h15.below hWc h15.lt).of_block (hf.block _ (Nat.lt_of_lt_of_le h15.lt e1) ?_), (hB5.below hWc hB5.lt).of_block (hf.block _ (Nat.lt_of_lt_of_le hB5.lt e1) ?_)⟩
        · intro hm
          exact H6.out (by simpa using hm)
        · intro hm
          have := hsvw _ (by simpa using hm)
          omega
      have HK := Lib.hid hkk
      have q0 := hB5.cell 0 rfl
      have q1 := hB5.cell 1 rfl
      have q2 := hB5.cell 2 rfl
      have q3 := hB5.cell 3 rfl
      have q4 := hB5.cell 4 rfl
      have q5 := hB5.cell 5 rfl
      have q6 := hB5.cell 6 rfl
      have q7 := hB5.cell 7 rfl
      have q8 := hB5.cell 8 rfl
      have t2 := h15.cell 2 rfl
      have ltb := h15.lt
      have lbx := hB5.lt
      clear hin hkk h45
      first
        | go_region_with ((go_at_call 42; refine HIN.out.mono ?_; rintro e w6 ⟨sv', rfl, ho, hf, hown⟩; obtain ⟨g', cap', rfl⟩ := ops_form ho; have HO := Lib.hid ho; have HF := Lib.hid hf; have HW := Lib.hid hown; have h16 := (HK.out _ hf).1; have c2 := h16.cell 2 rfl; have f2 := h16.frozen 2; have l6 := h16.lt; clear ho hf hown))
        | fail "with8"
      all_goals
        have hin2 : insO T.ops ⟨k, ⟨a, b⟩, ⟨c, d⟩, ⟨x, y⟩, nm, vl⟩ = T.ops.take kk ++ ⟨k, ⟨a, b⟩, ⟨c, d⟩, ⟨x, y⟩, nm, vl⟩ :: T.ops.drop kk := insO_parts HP.out
        obtain ⟨hX7, hN7, hT7⟩ : Blk (w6.setCell ⟨tb, 2, none⟩ (.slice (some ⟨g', 0, none⟩) (T.ops.length + 1) cap')) tb [.map (some bf), .map (some bn), .slice (some ⟨g', 0, none⟩) (T.ops.length + 1) cap', .int .i64 T.base.t, .int .i64 T.base.u] 43 ∧ NodesL (w6.setCell ⟨tb, 2, none⟩ (.slice (some ⟨g', 0, none⟩) (T.ops.length + 1) cap')) bn T.now ∧ TreeAt (w6.setCell ⟨tb, 2, none⟩ (.slice (some ⟨g', 0, none⟩) (T.ops.length + 1) cap')) tb ([tb, bf, bn] ++ [g']) { T with ops := insO T.ops ⟨k, ⟨a, b⟩, ⟨c, d⟩, ⟨x, y⟩, nm, vl⟩ } := by
          have e5 : ∀ g, g < w.heap.size → g ≠ tb → sv.ownBlock ≠ some g → (w6.setCell ⟨tb, 2, none⟩ (.slice (some ⟨g', 0, none⟩) (T.ops.length + 1) cap')).heap[g]? = w.heap[g]? := fun g h1 h2 h3 => by
            rw [Below.heap_setCell _ _ _ _ h2, HF.out.block g (by have := hWc.size; have := hb6.size; omega) (by simpa using h3), hWc.block g (by have := hb6.size; omega), hb6.block g h1]
          have b1 : sv.ownBlock ≠ some bf := fun e => by
            obtain ⟨cur, hc⟩ := h4.isCells e
            exact map_ne_cells H2.out.1 hc rfl
          have b2 : sv.ownBlock ≠ some bn := fun e => by
            obtain ⟨cur, hc⟩ := h4.isCells e
            exact map_ne_cells H3.out.1 hc rfl
          have b3 : bf ≠ tb := fun e => map_ne_cells H2.out.1 h1 e.symm
          have b4 : bn ≠ tb := fun e => map_ne_cells H3.out.1 h1 e.symm
          have b5 : g' ≠ tb := fun e => by
            rcases HW.out with h7 | h7
            · exact H6.out (by rw [← h7, ← e]; rfl)
            · have h8 : g' = (w5.drew.alloc (.cells #[.int .i64 k, .int .i64 a, .int .i64 b, .int .i64 c, .int .i64 d, .int .i64 x, .int .i64 y, .string nm, .string vl] 30)).heap.size := by simpa [Value.ownBlock] using h7
              have := hWc.size
              omega
          refine ⟨h16.set 2 _, H3.out.of_block (e5 _ H3.out.1.lt b4 b2), bf, bn, .slice (some ⟨g', 0, none⟩) (T.ops.length + 1) cap', h16.set 2 _, H2.out.of_block (e5 _ H2.out.1.lt b3 b1), H3.out.of_block (e5 _ H3.out.1.lt b4 b2), ?_, rfl, H5.out, fun e => b5 (by simpa [Value.ownBlock] using e)⟩
          have := HO.out.of_block (w' := w6.setCell ⟨tb, 2, none⟩ (.slice (some ⟨g', 0, none⟩) (T.ops.length + 1) cap')) (fun g hg => by
            have : g = g' := by simpa [Value.ownBlock] using hg.symm
            rw [this, Below.heap_setCell _ _ _ _ b5])
          rw [hin2]
          exact this
        have hB7 : Blk (w6.setCell ⟨tb, 2, none⟩ (.slice (some ⟨g', 0, none⟩) (T.ops.length + 1) cap')) w.heap.size [.int .i64 k, .int .i64 a, .int .i64 b, .int .i64 c, .int .i64 d, .int .i64 x, .int .i64 y, .string nm, .string vl] 30 := (HK.out _ HF.out).2.set_other (by simp; omega) _
        have hF7 : Fr (tb :: bf :: bn :: sv.ownBlock.toList) w (w6.setCell ⟨tb, 2, none⟩ (.slice (some ⟨g', 0, none⟩) (T.ops.length + 1) cap')) := by
          have e1 : Fr (tb :: bf :: bn :: sv.ownBlock.toList) w (w5.drew.alloc (.cells #[.int .i64 k, .int .i64 a, .int .i64 b, .int .i64 c, .int .i64 d, .int .i64 x, .int .i64 y, .string nm, .string vl] 30)) := (Fr.of_below _ hb6).trans (Fr.of_below _ hWc)
          exact (e1.trans' HF.out (fun x hx => Or.inl (by simp at hx ⊢; simp [hx]))).setCell (Or.inl (by simp)) _
        have hg7 : g' ∈ (tb :: bf :: bn :: sv.ownBlock.toList) ∨ w.heap.size ≤ g' := by
          rcases HW.out with h7 | h7
          · left
            have : sv.ownBlock = some g' := by rw [← h7]; rfl
            simp [this]
          · right
            have h8 : g' = (w5.drew.alloc (.cells #[.int .i64 k, .int .i64 a, .int .i64 b, .int .i64 c, .int .i64 d, .int .i64 x, .int .i64 y, .string nm, .string vl] 30)).heap.size := by simpa [Value.ownBlock] using h7
            have := hWc.size
            have := hb6.size
            omega
        clear HO HF HW HK HIN h16 c2 f2 l6 hWc hb6 q0 q1 q2 q3 q4 q5 q6 q7 q8 t2 ltb lbx hB5 h15
        generalize w6.setCell ⟨tb, 2, none⟩ (.slice (some ⟨g', 0, none⟩) (T.ops.length + 1) cap') = w7 at *
        have HT7 := Lib.hid hT7
        have HF7 := Lib.hid hF7
        have HG7 := Lib.hid hg7
        clear hT7 hF7 hg7
        have hdo : ∀ W, Fr [] w7 W → Calls Tryd.prog 43 #[.map (some bn), .agg #[.int .i64 k, .int .i64 a, .int .i64 b, .int .i64 c, .int .i64 d, .int .i64 x, .int .i64 y, .string nm, .string vl]] W (Did bn (doN T.now ⟨k, ⟨a, b⟩, ⟨c, d⟩, ⟨x, y⟩, nm, vl⟩) W) := fun W hW =>
          do_any W bn T.now k a b c d x y nm vl (hN7.of_block (hW.block _ hN7.1.lt (by simp))) (by rw [HI.out.now]; exact (wf_fold HI.out.wf _).rooted)
        have HDO := Lib.hid hdo
        have hne1 : tb ≠ bn := map_ne_cells hN7.1 hX7
        have hne2 : w.heap.size ≠ bn := map_ne_cells hN7.1 hB7
        have K10 : ∀ w' : World, Fr [bn] w7 w' → (w'.cell? ⟨w.heap.size, 0, none⟩ = some (.int .i64 k) ∧ w'.cell? ⟨w.heap.size, 1, none⟩ = some (.int .i64 a) ∧ w'.cell? ⟨w.heap.size, 2, none⟩ = some (.int .i64 b) ∧ w'.cell? ⟨w.heap.size, 3, none⟩ = some (.int .i64 c) ∧ w'.cell? ⟨w.heap.size, 4, none⟩ = some (.int .i64 d) ∧ w'.cell? ⟨w.heap.size, 5, none⟩ = some (.int .i64 x) ∧ w'.cell? ⟨w.heap.size, 6, none⟩ = some (.int .i64 y) ∧ w'.cell? ⟨w.heap.size, 7, none⟩ = some (.string nm) ∧ w'.cell? ⟨w.heap.size, 8, none⟩ = some (.string vl) ∧ w'.cell? ⟨tb, 1, none⟩ = some (.map (some bn))) := fun w' hw => by
          have hBB := hB7.of_block (hw.block _ hB7.lt (by simpa using hne2))
          have hXX := hX7.of_block (hw.block _ hX7.lt (by simpa using hne1))
          exact ⟨hBB.cell 0 rfl, hBB.cell 1 rfl, hBB.cell 2 rfl, hBB.cell 3 rfl, hBB.cell 4 rfl, hBB.cell 5 rfl, hBB.cell 6 rfl, hBB.cell 7 rfl, hBB.cell 8 rfl, hXX.cell 1 rfl⟩
        have hag := again_any w7 tb _ _ HT7.out (by have := HLS.out; simp only [insO_len]; omega) (fun j _ => (wf_fold HI.out.wf _).rooted)
        have HAG := Lib.hid hag
        have c2 := hX7.cell 2 rfl
        have hq1 : IntKind.i64.wrap (((T.ops.length + 1 : Nat) : Int) - 1) = (T.ops.length : Int) := by rw [IntKind.wrap_i64]; have := HI.out.few; omega
        have hq2 : IntKind.i64.wrap (((T.ops.length : Int) + 1) - 1) = (T.ops.length : Int) := by rw [IntKind.wrap_i64]; have := HI.out.few; omega
        clear hag hdo
        have hfew := HI.out.few
        have hq3 : wrap64 (T.ops.length : Int) = (T.ops.length : Int) := by unfold wrap64; omega
        by_cases hkl : kk = T.ops.length
        · have hkl2 : (kk : Int) = T.ops.length := by omega
          have hkl3 : ((T.ops.length : Int) == wrap64 (T.ops.length : Int)) = true := by rw [hq3]; simp
          have hf0 : Fr [bn] w7 w7.drew := (Fr.refl _ _).drew
          have hf1 : Fr [] w7 w7.drew := (Fr.refl _ _).drew
          go_wp2
          go_region_held3 (fun w' => w'.cell? ⟨w.heap.size, 0, none⟩ = some (.int .i64 k) ∧ w'.cell? ⟨w.heap.size, 1, none⟩ = some (.int .i64 a) ∧ w'.cell? ⟨w.heap.size, 2, none⟩ = some (.int .i64 b) ∧ w'.cell? ⟨w.heap.size, 3, none⟩ = some (.int .i64 c) ∧ w'.cell? ⟨w.heap.size, 4, none⟩ = some (.int .i64 d) ∧ w'.cell? ⟨w.heap.size, 5, none⟩ = some (.int .i64 x) ∧ w'.cell? ⟨w.heap.size, 6, none⟩ = some (.int .i64 y) ∧ w'.cell? ⟨w.heap.size, 7, none⟩ = some (.string nm) ∧ w'.cell? ⟨w.heap.size, 8, none⟩ = some (.string vl) ∧ w'.cell? ⟨tb, 1, none⟩ = some (.map (some bn))) (first | exact K10 _ hf0 | exact K10 _ hf2) ((go_at_call 43; refine (HDO.out _ hf1).mono ?_; rintro e w8 ⟨rfl, hN8, hF8⟩; have hf2 := hf0.trans hF8))
          go_wp2
          go_ret
          obtain ⟨bf', bn', sv', k1, k2, k3, k4, kF, k5, k6⟩ := HT7.out
          have he := k1.symm.trans hX7
          obtain ⟨rfl, rfl, rfl⟩ : bf' = bf ∧ bn' = bn ∧ sv' = .slice (some ⟨g', 0, none⟩) (T.ops.length + 1) cap' := by simpa using he
          have hmem : ∀ z ∈ [tb, bf', bn'] ++ [g'], z ∈ (tb :: bf' :: bn' :: sv.ownBlock.toList) ∨ w.heap.size ≤ z := fun z hz => by
            simp only [List.cons_append, List.nil_append, List.mem_cons, List.not_mem_nil, or_false] at hz
            rcases hz with rfl | rfl | rfl | rfl
            · simp
            · simp
            · simp
            · exact HG7.out
          have hnow : foldN T.fixed (insO T.ops ⟨k, ⟨a, b⟩, ⟨c, d⟩, ⟨x, y⟩, nm, vl⟩) = doN T.now ⟨k, ⟨a, b⟩, ⟨c, d⟩, ⟨x, y⟩, nm, vl⟩ := by
            rw [hin2, hkl, List.take_length, List.drop_length, foldN_app, ← HI.out.now]
            rfl
          have hbg : g' ≠ bn' := by
            obtain ⟨cur, hc⟩ := k4.isCells (g := g') rfl
            exact map_ne_cells hN7.1 hc
          refine ⟨[tb, bf', bn'] ++ [g'], by rw [HR.out]; rfl, ?_, HF7.out.trans' hf2 (fun z hz => Or.inl (by simp at hz; simp [hz])), hmem⟩
          rw [HR.out]
          refine ⟨bf', bn', _, hX7.of_block (hf2.block _ hX7.lt (by simpa using hne1)), k2.of_block (hf2.block _ k2.1.lt (by simpa using k5)), ?_, k4.of_block (fun g hg => ?_), rfl, k5, k6⟩
          · simp only
            rw [hnow]
            exact hN8
          · have : g = g' := by simpa [Value.ownBlock] using hg.symm
            subst this
            exact hf2.block _ (k4.lt rfl) (by simpa using hbg)
        · have hkl2 : ¬ ((kk : Int) = T.ops.length) := by omega
          have hkl3 : ((kk : Int) == wrap64 (T.ops.length : Int)) = false := by rw [hq3]; simpa using hkl2
          go_wp2_with (go_at_call 44; refine HAG.out.mono ?_; rintro e w8 ⟨rfl, hT8, hF8⟩)
          go_ret
          have hmem : ∀ z ∈ [tb, bf, bn] ++ [g'], z ∈ (tb :: bf :: bn :: sv.ownBlock.toList) ∨ w.heap.size ≤ z := fun z hz => by
            simp only [List.cons_append, List.nil_append, List.mem_cons, List.not_mem_nil, or_false] at hz
            rcases hz with rfl | rfl | rfl | rfl
            · simp
            · simp
            · simp
            · exact HG7.out
          exact ⟨_, by rw [HR.out]; rfl, by rw [HR.out]; exact hT8, HF7.out.trans' hF8 hmem, hmem⟩
  · have HR : Hid (applyN T ⟨k, ⟨a, b⟩, ⟨c, d⟩, ⟨x, y⟩, nm, vl⟩ = (T, 0)) := Lib.hid (by rw [HAP.out, if_pos hth])
    go_wp2
    go_ret
    refine ⟨_, by rw [HR.out]; rfl, by rw [HR.out]; exact HT.out.below (HU.out _ hk4) HT.out.lt, Fr.of_below _ (HU.out _ hk4), fun x hx => Or.inl hx⟩
end Go.Proofs.YteghkajegdcbjaaDoor
