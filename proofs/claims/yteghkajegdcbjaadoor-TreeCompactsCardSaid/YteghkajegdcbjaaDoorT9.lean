/-
  again: all operations are done anew upon what is for good.
-/
import Derived.Test.YteghkajegdcbjaaDoorT8
import Derived.StillTailTactics
namespace Go.Proofs.YteghkajegdcbjaaDoor
open Go.RowKit
set_option maxRecDepth 100000
set_option maxHeartbeats 1000000

def foldN (l : List Nd) (ops : List Opn) : List Nd := ops.foldl doN l
theorem foldN_take (l : List Nd) (ops : List Opn) (k : Nat) (h : k < ops.length) : foldN l (ops.take (k + 1)) = doN (foldN l (ops.take k)) ops[k] := by
  unfold foldN
  rw [List.take_succ_eq_append_getElem h, List.foldl_append]
  rfl
theorem OpsAt.isCells {w : World} {sv : Value} {l : List Opn} (h : OpsAt w sv l) {g : Nat} (hg : sv.ownBlock = some g) : ∃ cur, w.heap[g]? = some (.cells cur 30 (0, 0)) := by
  rcases h.2 with ⟨rfl, _⟩ | ⟨g', cap, cur, rfl, _, hh, _⟩
  · simp [Value.ownBlock] at hg
  · simp [Value.ownBlock] at hg
    subst hg
    exact ⟨cur, hh⟩
theorem map_ne_cells {w : World} {b g : Nat} {m : List (St × Nd)} {cs : Array Value} {t : TypeId} {fz : Nat × Nat} (h : NodesAt w b m) (hc : w.heap[g]? = some (.cells cs t fz)) : g ≠ b := fun e => by
  obtain ⟨es, ck, hb, _⟩ := h
  rw [e, hb] at hc
  cases hc
def Again (tb : Nat) (F : List Nat) (T : Tr) (w : World) (e : Ending) (w' : World) : Prop := e = .returned (.tuple #[]) ∧ TreeAt w' tb F { T with now := foldN T.fixed T.ops } ∧ Fr F w w'

theorem again_any (w : World) (tb : Nat) (F : List Nat) (T : Tr) (h : TreeAt w tb F T) (hs2 : T.ops.length ≤ 512) (hR : ∀ j, j ≤ T.ops.length → Rooted (foldN T.fixed (T.ops.take j))) :
    Calls Tryd.prog 44 #[.pointer (some ⟨tb, 0, none⟩)] w (Again tb F T w) := by
  obtain ⟨bf, bn, sv, h1, h2, h3, h4, rfl, h5, h6⟩ := h
  obtain ⟨w1, hcl, hm1, hg1, hs1⟩ := h3.1.clear (P := Tryd.prog) und_nodes 0
  have c1 := h1.cell 1 rfl
  have hne1 : tb ≠ bn := map_ne_cells h3.1 h1
  have hne2 : ∀ g, sv.ownBlock = some g → g ≠ bn := fun g hg => by
    obtain ⟨cur, hc⟩ := h4.isCells hg
    exact map_ne_cells h3.1 hc
  have k1 := h1.grown hg1 (fun e => hne1 (Option.some.inj e))
  have k2 : NodesAt w1 bf (kvN T.fixed) := h2.1.of_block (hg1.block bf h2.1.lt (fun e => h5 (Option.some.inj e)))
  have HR := Lib.hid hR
  have H5 := Lib.hid h5
  have d0 := k1.cell 0 rfl
  have d1 := k1.cell 1 rfl
  have d2 := k1.cell 2 rfl
  clear hR h5
  go_enter Tryd.func44, Tryd.ntmps44
  go_wp2
  go_still_tail 8, (by kernel_rfl)
  change wpList _ _ _ _ _ w1.drew
  have hd1 : NodesAt w1.drew bn [] := hm1.drew
  have hd2 : NodesAt w1.drew bf (kvN T.fixed) := k2.drew
  have hB1 : Blk w1.drew tb [.map (some bf), .map (some bn), sv, .int .i64 T.base.t, .int .i64 T.base.u] 43 := k1.of_block rfl
  have hf1 : Fr [bn] w w1.drew := ((Fr.refl [bn] w).grown hg1 (fun k e => Or.inl (by have := Option.some.inj e; simp [this]))).drew
  have CP := Lib.hid (copy_any w1.drew bn bf _ hd1 hd2 (fun e => H5.out e.symm))
  generalize w1.drew = w2 at *
  clear hm1 hg1 hs1 k1 k2 d0 d1 d2 hcl c1 hd1 hd2
  go_wp2_with fail
  refine (CP.out).mono ?_
  rintro e w3 ⟨rfl, hN3, hF3⟩
  have hF : Fr [bn] w w3 := hf1.trans hF3
  have HT := Lib.hid h1
  have H2 := Lib.hid h2
  have H4 := Lib.hid h4
  have HN1 := Lib.hid hne1
  have HN2 := Lib.hid hne2
  have hlt1 := h1.lt
  have hcs := h4.cases
  have e2 := (h1.fr hF (by simpa using hne1)).cell 2 rfl
  have H6 := Lib.hid h6
  have hN3' : NodesL w3 bn (foldN T.fixed (T.ops.take 0)) := ⟨by simpa [foldN] using hN3, by simpa [foldN] using h2.2⟩
  have H3 := Lib.hid h3
  clear CP hB1 hf1 hF3 h1 h2 h3 h4 hne1 hne2 h6 hN3
  have fin : ∀ wr, NodesL wr bn (foldN T.fixed (T.ops.take T.ops.length)) → Fr [bn] w wr → Again tb ([tb, bf, bn] ++ sv.ownBlock.toList) T w (.returned (.tuple #[])) wr := fun wr hN hFr => by
    refine ⟨rfl, ⟨bf, bn, sv, HT.out.fr hFr (by simpa using HN1.out), ⟨H2.out.1.fr hFr (by simpa using H5.out), H2.out.2⟩, ?_, H4.out.of_block (fun g hg => hFr.block g (H4.out.lt hg) (by simpa using HN2.out g hg)), rfl, H5.out, H6.out⟩, hFr.mono (by simp)⟩
    simpa using hN
  have FIN := Lib.hid fin
  clear fin
  rcases hcs with ⟨rfl, hn⟩ | ⟨g, cap, rfl⟩
  · have HNil := Lib.hid hn
    clear hn
    go_wp2
    refine wp_loop_rounds 1 ?_
    rw [rounds_succ]
    go_wp2
    go_end0
    exact FIN.out _ (by rw [HNil.out]; rw [HNil.out] at hN3'; exact hN3') hF
  · go_wp2
    go_loopw [22] (fun i wr => ∃ j : Nat, j ≤ T.ops.length ∧ i = .int .i64 j ∧ NodesL wr bn (foldN T.fixed (T.ops.take j)) ∧ Fr [bn] w wr) (fun i _ => T.ops.length - (intOf i).toNat)
    case atStart => exact ⟨0, Nat.zero_le _, rfl, hN3', hF⟩
    case round =>
      obtain ⟨j, hj, rfl, hN, hFr⟩ := hrel
      clear hN3' hF e2
      by_cases hlt : j < T.ops.length
      · have hg : g ≠ bn := HN2.out g rfl
        have h4' := H4.out.of_block (w' := wr) (fun g' hg' => hFr.block g' (H4.out.lt hg') (by simpa using HN2.out g' hg'))
        have e0 := h4'.cell j 0 hlt (by omega)
        have e1 := h4'.cell j 1 hlt (by omega)
        have e2 := h4'.cell j 2 hlt (by omega)
        have e3 := h4'.cell j 3 hlt (by omega)
        have e4 := h4'.cell j 4 hlt (by omega)
        have e5 := h4'.cell j 5 hlt (by omega)
        have e6 := h4'.cell j 6 hlt (by omega)
        have e7 := h4'.cell j 7 hlt (by omega)
        have e8 := h4'.cell j 8 hlt (by omega)
        have hct := foldN_take T.fixed T.ops j hlt
        obtain ⟨x, hx⟩ : ∃ x, x = T.ops[j] := ⟨_, rfl⟩
        rw [← hx] at e0 e1 e2 e3 e4 e5 e6 e7 e8 hct
        simp only [Opn.cs, Nat.add_zero, List.getElem?_cons_zero, List.getElem?_cons_succ] at e0 e1 e2 e3 e4 e5 e6 e7 e8
        obtain ⟨xk, ⟨xa, xb⟩, ⟨xc, xd⟩, ⟨xe, xf⟩, xn, xv⟩ := x
        have HX := Lib.hid hct
        have hB1 := (HT.out.fr hFr (by simpa using HN1.out))
        have t1 := fun X => (hB1.alloc X).cell 1 rfl
        have hbl := hN.1.lt
        have HNN := Lib.hid hN
        clear hx h4' hct hg hN
        go_wp2
        have hbx := Blk.at_ wr [.int .i64 xk, .int .i64 xa, .int .i64 xb, .int .i64 xc, .int .i64 xd, .int .i64 xe, .int .i64 xf, .string xn, .string xv] 30 rfl
        have hN4 : NodesL (wr.alloc (.cells #[.int .i64 xk, .int .i64 xa, .int .i64 xb, .int .i64 xc, .int .i64 xd, .int .i64 xe, .int .i64 xf, .string xn, .string xv] 30)) bn (foldN T.fixed (T.ops.take j)) := ⟨HNN.out.1.alloc _, HNN.out.2⟩
        have hF4 := hFr.alloc (.cells #[.int .i64 xk, .int .i64 xa, .int .i64 xb, .int .i64 xc, .int .i64 xd, .int .i64 xe, .int .i64 xf, .string xn, .string xv] 30)
        have t1' := t1 (.cells #[.int .i64 xk, .int .i64 xa, .int .i64 xb, .int .i64 xc, .int .i64 xd, .int .i64 xe, .int .i64 xf, .string xn, .string xv] 30)
        generalize wr.alloc (.cells #[.int .i64 xk, .int .i64 xa, .int .i64 xb, .int .i64 xc, .int .i64 xd, .int .i64 xe, .int .i64 xf, .string xn, .string xv] 30) = w4 at *
        have b0 := hbx.cell 0 rfl
        have b1 := hbx.cell 1 rfl
        have b2 := hbx.cell 2 rfl
        have b3 := hbx.cell 3 rfl
        have b4 := hbx.cell 4 rfl
        have b5 := hbx.cell 5 rfl
        have b6 := hbx.cell 6 rfl
        have b7 := hbx.cell 7 rfl
        have b8 := hbx.cell 8 rfl
        clear t1 e0 e1 e2 e3 e4 e5 e6 e7 e8 hbx
        have hrr := HR.out j hj
        have CD := Lib.hid (do_any w4.drew bn (foldN T.fixed (T.ops.take j)) xk xa xb xc xd xe xf xn xv ⟨hN4.1.drew, hN4.2⟩ hrr)
        clear hrr hN4
        go_still_tail 5, (by kernel_rfl)
        change wpList _ _ _ _ _ w4.drew
        go_wp2_with fail
        refine (CD.out).mono ?_
        rintro e w5 ⟨rfl, hN5, hF5⟩
        go_wp2
        go_roundw
        case rel => exact ⟨j + 1, by omega, by go_num, by rw [HX.out]; exact hN5, hF4.drew.trans hF5⟩
        case measure => simp [intOf]; omega
      · obtain rfl : j = T.ops.length := by omega
        go_wp2
        go_end0
        exact FIN.out _ hN hFr
end Go.Proofs.YteghkajegdcbjaaDoor
