/-
  slices.AppendSeq(nil, maps.Values(m)), slices.Collect: a new slice of all nodes, each once, in some order.
-/
import Derived.Test.YteghkajegdcbjaaDoorT12
import Derived.RangeFuncWrites
import Derived.RangeFuncBox
import Derived.Maps.AppendAt
namespace Go.Proofs.YteghkajegdcbjaaDoor
open Go.RowKit
set_option maxRecDepth 100000
set_option maxHeartbeats 1000000
attribute [local go_sem] Oper.semAt_some

theorem vals_stops (F : Fence) (n : Nat) (hf : F.fn 102) (hro : F.round = none) (hn : 1 ≤ n) (Bm b : Nat) (m : List (St × Nd)) (w : World) (hBm : Bm < w.heap.size) (hm : w.cell? ⟨Bm, 0, none⟩ = some (.map (some b))) (hown : NodesAt w b m) :
    SeqStopsK F n Tryd.prog 102 #[.pointer (some ⟨Bm, 0, none⟩)] (fun x : Nd => #[x.v]) KeepsWalks (fun xs => xs.Perm (m.map Prod.snd)) (fun _ => True) m.length w :=
  fun l J Jx W hW hJ _ hY h0 => by
    refine (vals1_in F n hf hro hn l Bm b m J Jx hY W hJ ((hW.cell (p := ⟨Bm, 0, none⟩) hBm).trans hm) (hown.below hW hown.lt) h0).mono ?_
    rintro e W' ⟨hv, ⟨xs, hp, hj⟩ | ⟨pre, hj⟩⟩
    · exact ⟨hv, .inl ⟨xs, hp, hj⟩⟩
    · exact ⟨hv, .inr ⟨pre, trivial, hj⟩⟩

theorem info_node : (Tryd.prog.info? 46).map (fun i => (i.zero, i.size, i.bytes)) = some (some Nd.zero.v, 6, 64) := by kernel_rfl
theorem values_any (b : Nat) (w : World) : Calls Tryd.prog 75 #[.map (some b)] w fun e w' =>
    e = .returned (.func (.func 102) #[] #[.pointer (some ⟨w.heap.size, 0, none⟩)]) ∧ w' = w.alloc (.cells #[.map (some b)] 41) := by
  go_enter Tryd.func75, Tryd.ntmps75
  go_wp2
  go_ret
  exact ⟨rfl, rfl⟩

/-- What comes back: a new slice that owns these nodes, in some order. -/
def Gathered (m : List (St × Nd)) (w : World) (e : Ending) (w' : World) : Prop :=
  ∃ v l, e = .returned v ∧ l.Perm (m.map Prod.snd) ∧ w'.ownsRow w.heap.size 46 6 v l.length (flatN l) ∧ (v = .slice none 0 0 ↔ l = []) ∧ Below w.heap.size w w'

theorem blk_own {β : Type} (B : Nat) (t : TypeId) (f : β → List Value) : Own (fun s W => Blk W B (f s) t) := fun s X Y row hs hg hrow => by
  refine hs.grown hg (fun e' => ?_)
  obtain ⟨o, ho, hc⟩ := hrow B e'.symm
  unfold Blk at hs
  rw [hs] at ho
  cases ho
  cases hc
theorem flatN_snoc (l : List Nd) (x : Nd) : flatN (l ++ [x]) = flatN l ++ x.cs := by simp [flatN]

theorem gather_any (Bm b : Nat) (m : List (St × Nd)) (w : World) (hBm : Bm < w.heap.size) (hm : w.cell? ⟨Bm, 0, none⟩ = some (.map (some b))) (hown : NodesAt w b m) (hsz : m.length ≤ 100000) :
    Calls Tryd.prog 101 #[.slice none 0 0, .func (.func 102) #[] #[.pointer (some ⟨Bm, 0, none⟩)]] w (Gathered m w) := by
  refine (callsIn_wide (n := 5)).1 ?_
  have hro : Fence.wide.round = none := rfl
  refine callsIn_of_wp_marks Tryd.func101 rfl trivial ?_ hro
  simp only [Tryd.ntmps101, List.size_toArray, List.length_cons, List.length_nil, Nat.reduceAdd, Nat.reduceSub, Array.replicate_succ, Array.replicate_zero, List.push_toArray, List.append_toArray, List.nil_append, List.cons_append]
  have HO := Lib.hid hown
  have HM := Lib.hid hm
  clear hown hm
  gi_wp2
  have bS := Boxed.new w 36 (.slice none 0 0)
  have hB0 : Below w.heap.size w (w.alloc (.cells #[.slice none 0 0] 36)) := (Below.refl _ w).alloc (Nat.le_refl _) _
  have hsz0 : (w.alloc (.cells #[.slice none 0 0] 36)).heap.size = w.heap.size + 1 := by simp
  have hcm : (w.alloc (.cells #[.slice none 0 0] 36)).cell? ⟨Bm, 0, none⟩ = some (.map (some b)) := (hB0.cell (p := ⟨Bm, 0, none⟩) hBm).trans HM.out
  have hon := HO.out.alloc (.cells #[.slice none 0 0] 36)
  obtain ⟨W0, hW0⟩ : ∃ W0, w.alloc (.cells #[.slice none 0 0] 36) = W0 := ⟨_, rfl⟩
  rw [hW0] at bS hB0 hsz0 hcm hon ⊢
  clear hW0
  refine wpIn_rangeFunc_ownH hro (by omega) (gf := 102) (lb := #[.pointer (some ⟨Bm, 0, none⟩)]) rfl trivial (enters_of Tryd.func102 (by kernel_rfl) rfl)
    (vals_stops Fence.wide (5 - 1) trivial hro (by omega) Bm b m W0 (by omega) hcm hon) walksK_t walksK_b (Below.refl _ _) (fun _ => rfl)
    (fun pre W => (∃ v, Boxed W w.heap.size 36 v ∧ W.ownsRow w.heap.size 46 6 v pre.length (flatN pre) ∧ (v = .slice none 0 0 ↔ pre = [])) ∧ Below w.heap.size w W)
    (fun _ _ _ => False)
    (OwnFrom.and (Own.from (holdsRow_own w.heap.size w.heap.size 36 46 6 (fun pre : List Nd => pre.length) (fun pre => flatN pre) (fun pre v => (v = .slice none 0 0 ↔ pre = []))) _) (ownFrom_below (Nat.le_refl _) (by omega)))
    (fun _ _ _ _ _ hs _ _ => hs)
    ⟨⟨_, bS, World.ownsRow_nil _ _ _ _, by simp⟩, hB0⟩
    (fun x a' W => ∃ Bx, w.heap.size < Bx ∧ Blk W Bx x.cs 46 ∧ a' = { tmps := #[.slice none 0 0, .func (.func 102) #[] #[.pointer (some ⟨Bm, 0, none⟩)], .pointer (some ⟨w.heap.size, 0, none⟩), undef, .slice none 0 0, .pointer (some ⟨Bx, 0, none⟩), .func (.func 102) #[] #[.pointer (some ⟨Bm, 0, none⟩)], x.v, undef, undef, undef, undef, undef], defers := [] })
    (fun x a' _ X Y row hs hg hr => by obtain ⟨Bx, h1, h2, h3⟩ := hs; exact ⟨Bx, h1, blk_own Bx 46 (fun (_ : Unit) => x.cs) () X Y row h2 hg (fun r e => (hr r e).2), h3⟩)
    ?assign ?body ?done ?stop
  case assign =>
    rintro l pre ⟨⟨a1, a2⟩, ⟨a3, a4⟩, nm, vl⟩ W K ⟨⟨v, hv, hr, hn⟩, hB⟩ hK
    simp only [Nd.v]
    have HN := Lib.hid hn
    clear hn
    gi_wp2
    exact hK _ _ ((KeepsOthers.alloc _ _).from _) (KeepsWalks.alloc _ _) ⟨⟨v, hv.alloc _, hr.alloc _, HN.out⟩, hB.alloc hB.size _⟩ ⟨W.heap.size, hv.lt, Blk.at_ W [.int .i64 a1, .int .i64 a2, .int .i64 a3, .int .i64 a4, .string nm, .string vl] _ rfl, rfl⟩
  case body =>
    rintro l pre ⟨⟨a1, a2⟩, ⟨a3, a4⟩, nm, vl⟩ a' W hl ⟨r, hr⟩ ⟨⟨v, hv, hrow, hn⟩, hB⟩ ⟨Bx, hBx, bX, rfl⟩ hlt
    have HN := Lib.hid hn
    clear hn
    have x0 := bX.cell 0 rfl
    have x1 := bX.cell 1 rfl
    have x2 := bX.cell 2 rfl
    have x3 := bX.cell 3 rfl
    have x4 := bX.cell 4 rfl
    have x5 := bX.cell 5 rfl
    have hcv := hv.cell
    have hfv := hv.frozen
    have hvl := hv.lt
    obtain ⟨i0, hi, hz0, hz1, hz2⟩ := info_parts info_node
    have HB := Lib.hid hB
    have hbs := hB.size
    clear hB
    simp only [Nd.v]
    have hnb := Blk.at_ W [.int .i64 a1, .int .i64 a2, .int .i64 a3, .int .i64 a4, .string nm, .string vl] 46 rfl
    have HNB := Lib.hid hnb
    clear hnb
    have hi' := Lib.hid hi
    have hz0' := Lib.hid hz0
    have hz1' := Lib.hid hz1
    have hz2' := Lib.hid hz2
    clear hi hz0 hz1 hz2
    gi_wp2_with (gi_at_builtin; refine wpListIn_append_own _ rfl _ _ 36 rfl w.heap.size 46 i0 Nd.zero.v 6 64 Tryd.underlying36 hi'.out hz0'.out hz1'.out hz2'.out rfl (by decide) _ _ _ rfl (hrow.alloc _) ⟨W.heap.size, 0, none⟩ 1 1 [.int .i64 a1, .int .i64 a2, .int .i64 a3, .int .i64 a4, .string nm, .string vl] rfl rfl ?c1 ?c2 ?c3 ?c4 ?c5 ?_; rotate_left 5; intro v' w1 hown' hgrow hnn; clear hnn; obtain ⟨g', cap', rfl⟩ := ownsRow_succ hown'; obtain ⟨hv1, hv2, hr2, hk2, hb2⟩ := hv.appended (by decide) hrow hbs (Nat.le_refl _) hown' hgrow; have hc1 := hv1.cell; have hf1 := hv1.frozen)
    case c2 => simp [Value.oneCell']
    case c3 => simp only [maxLen]; omega
    case c4 => omega
    case c5 => omega
    exact ⟨hk2.from _, hk2.walks, ⟨_, hv2, by simpa [flatN, Nd.cs] using hr2, by simp⟩, HB.out.trans hb2⟩
  case done =>
    rintro D ys W hD hS ⟨⟨v, hv, hrow, hn⟩, hB⟩ hK
    have hcv := hv.cell
    have HN := Lib.hid hn
    clear hn
    gi_wp2
    refine ⟨by simp, .inl ⟨_, _, rfl, run_takeDeferred hK, ?_⟩⟩
    exact ⟨_, results_tmp rfl _ _ _, v, ys, rfl, hS, ownsRow_putObj hrow _ hK rfl, HN.out, hB.trans (belowK_b (w := w) (Nat.le_refl _) W D _ _ (by omega) hK rfl rfl)⟩
  case stop =>
    rintro D c pre W _ _ h _
    exact h.elim

theorem collect_any (Bm b : Nat) (m : List (St × Nd)) (w : World) (hBm : Bm < w.heap.size) (hm : w.cell? ⟨Bm, 0, none⟩ = some (.map (some b))) (hown : NodesAt w b m) (hsz : m.length ≤ 100000) :
    Calls Tryd.prog 74 #[.func (.func 102) #[] #[.pointer (some ⟨Bm, 0, none⟩)]] w (Gathered m w) := by
  have HG := Lib.hid (gather_any Bm b m w hBm hm hown hsz)
  clear hm hown
  go_enter Tryd.func74, Tryd.ntmps74
  go_wp2_with (go_at_call 101; refine (HG.out).mono ?_; rintro e w1 ⟨v, l, rfl, h1, h2, h3, h4⟩; have H1 := Lib.hid h1; have H3 := Lib.hid h3; clear h1 h3)
  go_ret
  exact ⟨v, l, rfl, H1.out, h2, H3.out, h4⟩
end Go.Proofs.YteghkajegdcbjaaDoor
