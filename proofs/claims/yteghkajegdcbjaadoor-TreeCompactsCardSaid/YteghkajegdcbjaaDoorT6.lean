/-
  maps.Copy into an empty map: the copy holds what the other map holds.
-/
import Derived.Test.YteghkajegdcbjaaDoorT5
import Derived.Test.YteghkajegdcbjaaDoorM2
namespace Go.Proofs.YteghkajegdcbjaaDoor
open Go.RowKit

theorem putKV_new {α β : Type} [DecidableEq α] {a : α} {v : β} {m : List (α × β)} (h : a ∉ m.map Prod.fst) : putKV a v m = (a, v) :: m := by
  simp only [putKV]
  congr 1
  rw [List.filter_eq_self]
  intro p hp
  have : p.1 ≠ a := fun e => h (List.mem_map.2 ⟨p, hp, e⟩)
  simpa using this

def Copied (bd : Nat) (m : List (St × Nd)) (w : World) (e : Ending) (w' : World) : Prop := e = .returned (.tuple #[]) ∧ NodesAt w' bd m ∧ Fr [bd] w w'

set_option maxRecDepth 100000 in
set_option maxHeartbeats 1000000 in
theorem copy_any (w : World) (bd bs : Nat) (m : List (St × Nd)) (hd : NodesAt w bd []) (hs : NodesAt w bs m) (hne : bd ≠ bs) :
    Calls Tryd.prog 73 #[.map (some bd), .map (some bs)] w (Copied bd m w) := by
  obtain ⟨o, hrg, hit⟩ := hs.range (P := Tryd.prog) und_nodes
  have hd1 := hd.alloc o
  have hlt := hd.lt
  have hls := hs.lt
  have hf0 : Fr [bd] w (w.alloc o) := (Fr.refl _ w).alloc o
  have HNE := Lib.hid hne
  clear hne
  have HO := Lib.hid hit
  have HD := Lib.hid hd1
  clear hit hd1 hd hs
  go_enter Tryd.func73, Tryd.ntmps73
  go_wp2
  go_loopg [] m.length (fun k wr => ∃ done left, NodesAt wr bd done ∧ IterAt St.v Nd.v wr w.heap.size bs m left ∧ Aside ((done ++ left).Perm m) ∧ left.length ≤ k ∧ Fr [bd] w wr)
  case atStart => exact ⟨[], m, HD.out, HO.out, List.Perm.refl _, Nat.le_refl _, hf0⟩
  case round =>
    obtain ⟨done, left, hD, hI, hP, hk, hF⟩ := hrel
    clear hrg
    rcases hI.next (P := Tryd.prog) 0 with ⟨rfl, hnx⟩ | ⟨k, v, left', w2, hpl, hmem, hnx, hI2, hg2, hs2, hen⟩
    · go_wp2
      go_end0
      exact ⟨rfl, hD.perm (by simpa using hP.out), hF⟩
    · have hen2 := hen w2 rfl rfl
      clear hen
      obtain ⟨kt, ku⟩ := k
      obtain ⟨⟨a, b⟩, ⟨c, d⟩, nm, vl⟩ := v
      simp only [St.v, Nd.v] at hnx hen2
      have hlen := hpl.length_eq
      simp only [List.length_cons] at hlen
      have HPL := Lib.hid hpl
      have HG := Lib.hid hg2
      have hz : w2.heap.size = wr.heap.size := hs2
      have hlt2 : w.heap.size < wr.heap.size := hI.lt
      have hD2 : NodesAt w2 bd done := hD.of_block (hg2.block bd hD.lt (fun e => by have := hD.lt; have h1 := Option.some.inj e; omega))
      have hz' : wr.heap.size ≤ w2.heap.size := by omega
      have hbs : bs < w2.heap.size := hI2.map.lt
      have hit2 : w.heap.size < w2.heap.size := hI2.lt
      clear hpl hg2 hs2 hmem hI hz
      go_wp2_with (at_mapUpdate; refine wpList_put (ek := St.v) (ev := Nd.v) rfl _ _ _ 41 46 rfl und_nodes keySt (b := bd) (m := done) rfl ?c1 ⟨kt, ku⟩ ⟨⟨a, b⟩, ⟨c, d⟩, nm, vl⟩ rfl rfl ?_; rotate_left; intro w3 hm3 hg3 hs3)
      case c1 => exact (hD2.alloc _).alloc _
      have hk3 : (⟨kt, ku⟩ : St) ∉ done.map Prod.fst := fun hin => by
        have hnd := (hI2.map.nodup)
        have hp2 := (hP.out.symm.trans ((List.Perm.append_left done HPL.out))).map Prod.fst
        have := hp2.nodup_iff.1 hnd
        simp only [List.map_append, List.map_cons, List.nodup_append] at this
        exact this.2.2 _ hin _ (by simp) rfl
      rw [putKV_new hk3] at hm3
      go_roundg left'.length
      case measure => omega
      case rel =>
        refine ⟨_, left', hm3, ?_, ?_, Nat.le_refl _, ?_⟩
        · refine hI2.of_block ?_ ?_
          · rw [hg3.block _ (by simp; omega) (fun e => by have := Option.some.inj e; omega), Below.heap_alloc _ _ _ (by simp; omega), Below.heap_alloc _ _ _ (by omega)]
          · rw [hg3.block _ (by simp; omega) (fun e => HNE.out (Option.some.inj e).symm), Below.heap_alloc _ _ _ (by simp; omega), Below.heap_alloc _ _ _ (by omega)]
        · refine List.Perm.trans ?_ hP.out
          refine List.Perm.trans ?_ (List.Perm.append_left done HPL.out.symm)
          exact List.perm_middle.symm
        · exact (((hF.grown HG.out (fun k e => Or.inr (by have := Option.some.inj e; omega))).alloc _).alloc _).grown hg3 (fun k e => Or.inl (by have := Option.some.inj e; simp [this]))
end Go.Proofs.YteghkajegdcbjaaDoor
