/-
  maps.Values over a map of nodes: the iterator hands out each node once, in some order.
-/
import Derived.RangeFuncNested
import Derived.RangeFuncBound
import Derived.RangeFuncCalls
import Derived.RangeFuncLeaves
import Derived.WalkKit
import Derived.OwnWalkIn
import Derived.TacticsInMore
import Derived.LoopNIn
import Derived.LoopIn
import Derived.Maps.Range
import Derived.Test.YteghkajegdcbjaaDoorT11
namespace Go.Proofs.YteghkajegdcbjaaDoor
open Go.RowKit
set_option maxRecDepth 100000
set_option maxHeartbeats 1000000

theorem IterAt.rangeLeft {α β : Type} {ek : α → Value} {ev : β → Value} {w : World} {b it : Nat} {m left : List (α × β)} (h : IterAt ek ev w it b m left) : w.rangeLeft b it = left.length := by
  obtain ⟨es, clock, since, seen, c0, h1, h2, _, _, _, _, _, h8⟩ := h
  have := h8.length_eq
  simp only [List.length_map, Array.length_toList] at this
  simp only [World.rangeLeft, h1, h2]
  exact this

theorem vals1_in (F : Fence) (n : Nat) (hf : F.fn 102) (hro : F.round = none) (hn : 1 ≤ n) (l Bm b : Nat) (m : List (St × Nd)) (J Jx : List Nd → World → Prop)
    (hY : ∀ pre x W, J pre W → pre.length < m.length → YieldAt F (n - 1) Tryd.prog l #[x.v] W fun e W' =>
      (e = .returned (.bool true) ∧ J (pre ++ [x]) W' ∧ KeepsWalks W W') ∨ (e = .returned (.bool false) ∧ Jx (pre ++ [x]) W'))
    (W : World) (hJ : AbidesFrom W.heap.size J) (hm : W.cell? ⟨Bm, 0, none⟩ = some (.map (some b))) (hown : NodesAt W b m) (h0 : J [] W) :
    CallsIn F n Tryd.prog 102 #[.func (.yield l) #[] #[], .pointer (some ⟨Bm, 0, none⟩)] W fun e W' => (∃ v, e = .returned v) ∧
      ((∃ xs, xs.Perm (m.map Prod.snd) ∧ J xs W') ∨ (∃ pre, Jx pre W')) := by
  obtain ⟨o, hrg, hit⟩ := hown.range (P := Tryd.prog) und_nodes
  have hg0 : W.grownBy (W.alloc o) none := World.grownBy_alloc W o none
  have hJ0 := hJ [] W (W.alloc o) none h0 hg0 (fun r e => by cases e)
  refine callsIn_of_wp Tryd.func102 rfl hf ?_ hro
  simp only [Tryd.ntmps102, List.size_toArray, List.length_cons, List.length_nil, Nat.reduceAdd, Nat.reduceSub, Array.replicate_succ, Array.replicate_zero, List.push_toArray, List.append_toArray, List.nil_append, List.cons_append]
  have HIT := Lib.hid hit
  have HJ := Lib.hid hJ
  have HY := Lib.hid hY
  have HJ0 := Lib.hid hJ0
  clear hit hJ hY hJ0 h0 hown hg0
  gi_wp2
  gi_loopw [] (fun wr => ∃ done left, IterAt St.v Nd.v wr W.heap.size b m left ∧ Aside ((done ++ left.map Prod.snd).Perm (m.map Prod.snd)) ∧ J done wr)
    (fun wr => wr.rangeLeft b W.heap.size)
  case atStart => exact ⟨[], m, HIT.out, List.Perm.refl _, HJ0.out⟩
  case round =>
    obtain ⟨done, left, hI, hP, hJd⟩ := hrel
    clear hrg
    have hrl := hI.rangeLeft
    rcases hI.next (P := Tryd.prog) 0 with ⟨rfl, hnx⟩ | ⟨k, v, left', w2, hpl, hmem, hnx, hI2, hg2, hs2, hen⟩
    · clear hrl
      gi_wp2
      go_end0
      exact ⟨⟨_, rfl⟩, .inl ⟨done, by simpa using hP.out, hJd⟩⟩
    · have hen2 := hen w2 rfl rfl
      have hwalk := hI.walk
      have hlen := hpl.length_eq
      have hJ2 : J done w2 := HJ.out done wr w2 (some W.heap.size) hJd hg2 (fun r e => by cases e; exact ⟨Nat.le_refl _, hwalk⟩)
      have hJ3 : ∀ o, J done (w2.alloc o) := fun o => HJ.out done w2 (w2.alloc o) none hJ2 (World.grownBy_alloc w2 o none) (fun r e => by cases e)
      have hdl : done.length < m.length := by
        have h1 := hP.out.length_eq
        simp only [List.length_append, List.length_map] at h1
        simp only [List.length_cons] at hlen
        omega
      have hP2 : ((done ++ [v]) ++ left'.map Prod.snd).Perm (m.map Prod.snd) := by
        refine List.Perm.trans ?_ hP.out
        rw [List.append_assoc]
        exact List.Perm.append_left done (hpl.map Prod.snd).symm
      have hY2 := HY.out done v (w2.alloc (.cells #[.int .i64 v.id.t, .int .i64 v.id.u, .int .i64 v.par.t, .int .i64 v.par.u, .string v.nm, .string v.vl] 46)) (hJ3 _) hdl
      obtain ⟨fn, tmps, assign, body, hy, hR⟩ := hY2
      have HRR := Lib.hid hR
      clear hR
      have HP2 := Lib.hid hP2
      have HLN : Hid (w2.rangeLeft b W.heap.size < wr.rangeLeft b W.heap.size) := by
        rw [Hid, hI2.rangeLeft, hrl]; simp only [List.length_cons] at hlen; omega
      have hl2 := hI2.rangeLeft
      rw [hrl] at HLN
      rw [hl2] at HLN
      obtain ⟨kt, ku⟩ := k
      obtain ⟨⟨a, c⟩, ⟨d, e⟩, nm, vl⟩ := v
      simp only [St.v, Nd.v] at hnx hen2 hy
      clear hen hwalk hlen hJ2 hJ3 hdl hP2 hpl hg2 hs2 hmem hP hI hl2 hJd
      have HI2 := Lib.hid (fun o => hI2.alloc o)
      clear hI2
      gi_wp2
      refine HRR.out.mono ?_
      rintro e' W3 (⟨rfl, hJ3, hk3⟩ | ⟨rfl, hJx3⟩)
      · have hI3 := (HI2.out _).of_walks hk3
        have hl3 := hI3.rangeLeft
        have HJ3 := Lib.hid hJ3
        clear hJ3 hk3
        gi_wp2
        go_roundw
        case rel => exact ⟨_, left', hI3, HP2.out, HJ3.out⟩
        case measure => rw [hl3, hrl]; exact HLN.out
      · gi_wp2
        refine bodyPost_ret (results_none rfl _ _ _) rfl ?_
        exact ⟨⟨_, rfl⟩, .inr ⟨_, hJx3⟩⟩
end Go.Proofs.YteghkajegdcbjaaDoor
