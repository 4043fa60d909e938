/-
  has, below: what they answer of a map of nodes.
-/
import Derived.Test.YteghkajegdcbjaaDoorT2
import Derived.Deep.LoopGhost
namespace Go.Proofs.YteghkajegdcbjaaDoor
open Go.RowKit

set_option maxHeartbeats 400000 in
theorem has_any (w : World) (b : Nat) (m : List (St × Nd)) (t u : Int) (h : NodesAt w b m) :
    Calls Tryd.prog 71 #[.map (some b), .agg #[.int .i64 t, .int .i64 u]] w (Ret (.bool (hasNd m ⟨t, u⟩ || outerP t u)) w) := by
  have hl := fun X => NodesAt.look (h.alloc X) ⟨t, u⟩
  generalize hg : getNd m ⟨t, u⟩ = g at hl
  clear hg
  cases hh : hasNd m ⟨t, u⟩
  all_goals
    rw [hh] at hl
    clear hh
    simp only [Nd.v] at hl
    go_enter Tryd.func71, Tryd.ntmps71
    go_wp2_with (go_at_call 50; refine (outer_any _ _ _).mono ?_; rintro e w' ⟨rfl, hb⟩)
    go_ret
  · exact ⟨by simp, (((Below.refl _ _).alloc (Nat.le_refl _) _).alloc (by simp) _).trans (hb.mono (by simp; omega))⟩
  · exact ⟨by simp, ((Below.refl _ _).alloc (Nat.le_refl _) _).alloc (by simp) _⟩

set_option maxRecDepth 100000 in
set_option maxHeartbeats 1000000 in
theorem below_any (w : World) (b : Nat) (m : List (St × Nd)) (t u t' u' : Int) (n : Nat) (r : Bool) (h : NodesAt w b m) (hr : belowF m ⟨t', u'⟩ n ⟨t, u⟩ = some r) :
    Calls Tryd.prog 72 #[.map (some b), .agg #[.int .i64 t, .int .i64 u], .agg #[.int .i64 t', .int .i64 u']] w (Ret (.bool r) w) := by
  have HR := Lib.hid hr
  have HM := Lib.hid h
  clear hr
  clear h
  go_enter Tryd.func72, Tryd.ntmps72
  go_wp2
  go_loopg [6] n (fun k v6 wr => ∃ s : St, v6 = .bool false ∧ Aside (belowF m ⟨t', u'⟩ k s = some r) ∧ Blk wr w.heap.size s.cs 28 ∧ Blk wr (w.heap.size + 1) (St.cs ⟨t', u'⟩) 28 ∧ Below w.heap.size w wr)
  case atStart =>
    exact ⟨⟨t, u⟩, rfl, HR.out, (Blk.made _ _ _).alloc _, Blk.at_ _ (St.cs ⟨t', u'⟩) _ (by simp), ((Below.refl _ _).alloc (Nat.le_refl _) _).alloc (by simp) _⟩
  case round =>
    obtain ⟨s, rfl, HA, B1, B2, HB⟩ := hrel
    cases gk with
    | zero => exact absurd HA.out (by simp [belowF])
    | succ k =>
      obtain ⟨st, su⟩ := s
      have e1 := fun (w : World) => eqSt 9998 w st t' su u'
      have c10 := B1.cell 0 rfl
      have c11 := B1.cell 1 rfl
      have lt1 := B1.lt
      have lt2 := B2.lt
      have hm := HM.out.lt
      have hr := HA.out
      simp only [belowF] at hr
      cases ho : outerP st su
      · rw [ho] at hr
        have ho' : ∀ W, Calls Tryd.prog 50 #[.agg #[.int .i64 st, .int .i64 su]] W (Ret (.bool false) W) := fun W => by have := outer_any st su W; rw [ho] at this; exact this
        have HO := Lib.hid ho'
        clear ho' ho
        by_cases hq : (⟨st, su⟩ : St) = ⟨t', u'⟩
        · simp [hq] at hr
          subst hr
          obtain ⟨rfl, rfl⟩ := St.mk.inj hq
          clear HA hq
          go_wp2_with (go_at_call 50; refine (HO.out _).mono ?_; rintro e w1 ⟨rfl, hb⟩; have B1' := B1.below hb B1.lt; have B2' := B2.below hb B2.lt; have d10 := B1'.cell 0 rfl; have d11 := B1'.cell 1 rfl; have d20 := B2'.cell 0 rfl; have d21 := B2'.cell 1 rfl)
          go_ret
          exact ⟨rfl, below_up HB hb (by have := HB.size; omega)⟩
        · have hq' : (st == t' && su == u') = false := by simpa using hq
          simp [hq] at hr
          obtain ⟨g, hg⟩ : ∃ g, g = getNd m ⟨st, su⟩ := ⟨_, rfl⟩
          rw [← hg] at hr
          have hl : ∀ W, Below w.heap.size w W → (Instr.lookup 41 (.map (some b)) (.agg #[.int .i64 st, .int .i64 su]) false).run Tryd.prog W = .ok (.agg #[.int .i64 g.id.t, .int .i64 g.id.u, .int .i64 g.par.t, .int .i64 g.par.u, .string g.nm, .string g.vl]) W := fun W hW => by
            rw [NodesAt.look1 (HM.out.below hW hm) ⟨st, su⟩, ← hg]; rfl
          clear hg
          have HLK := Lib.hid hl
          obtain ⟨⟨gt, gu⟩, ⟨pt, pu⟩, gn, gv⟩ := g
          have HR' := Lib.hid hr
          clear HA hr hq hl
          have e2 : ∀ (w : World), (Op.equalIn (9998 + 2) 28 (.agg #[.int .i64 st, .int .i64 su]) (.agg #[.int .i64 t', .int .i64 u'])).run Tryd.prog w = .ok false w := fun w => by rw [e1, hq']
          clear e1 hq'
          have fp := fun W => field_par W gt gu pt pu gn gv
          go_wp2_with (go_at_call 50; refine (HO.out _).mono ?_; rintro e w1 ⟨rfl, hb⟩; have B1' := B1.below hb B1.lt; have B2' := B2.below hb B2.lt; have HB' := below_up HB hb (by have := HB.size; omega); have f10 := B1'.frozen 0; have f11 := B1'.frozen 1; have d10 := B1'.cell 0 rfl; have d11 := B1'.cell 1 rfl; have d20 := B2'.cell 0 rfl; have d21 := B2'.cell 1 rfl; have l1 := HLK.out _ HB')
          go_roundg k
          case measure => omega
          case rel => exact ⟨⟨pt, pu⟩, rfl, HR'.out, (B1'.set 0 _).set 1 _, (B2'.set_other (by simp) _).set_other (by simp) _, (HB'.setCell (by simp) _).setCell (by simp) _⟩
      · rw [ho] at hr
        simp at hr
        subst hr
        have ho' : ∀ W, Calls Tryd.prog 50 #[.agg #[.int .i64 st, .int .i64 su]] W (Ret (.bool true) W) := fun W => by have := outer_any st su W; rw [ho] at this; exact this
        have HO := Lib.hid ho'
        clear ho' ho HA
        go_wp2_with (go_at_call 50; refine (HO.out _).mono ?_; rintro e w1 ⟨rfl, hb⟩)
        go_ret
        exact ⟨rfl, below_up HB hb (by have := HB.size; omega)⟩
end Go.Proofs.YteghkajegdcbjaaDoor
