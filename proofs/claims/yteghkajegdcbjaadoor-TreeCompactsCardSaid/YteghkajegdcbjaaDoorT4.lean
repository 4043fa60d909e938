/-
  do: what an operation does to a map of nodes. (One theorem a way; printed by mkT4.py.)
-/
import Derived.Test.YteghkajegdcbjaaDoorT3
import Derived.Maps.Own
namespace Go.Proofs.YteghkajegdcbjaaDoor
open Go.RowKit

/-- The block is a map of just these nodes, which rise by their numbers. -/
def NodesL (w : World) (b : Nat) (l : List Nd) : Prop := NodesAt w b (kvN l) ∧ Rising l
def Did (b : Nat) (l : List Nd) (w : World) (e : Ending) (w' : World) : Prop := e = .returned (.tuple #[]) ∧ NodesL w' b l ∧ Fr [b] w w'

theorem look_none {w : World} {b : Nat} {l : List Nd} {t u : Int} (hm : NodesAt w b (kvN l)) (hn : findN l ⟨t, u⟩ = none) :
    ∀ W, Below w.heap.size w W → (Instr.lookup 41 (.map (some b)) (.agg #[.int .i64 t, .int .i64 u]) true).run Tryd.prog W = .ok (.tuple #[.agg #[.int .i64 0, .int .i64 0, .int .i64 0, .int .i64 0, .string ⟨#[]⟩, .string ⟨#[]⟩], .bool false]) W := fun W hW => by
  have := NodesAt.look (hm.below hW hm.lt) ⟨t, u⟩
  simp only [getNd, hasNd, lookup_kvN, hn] at this
  exact this
theorem look_some {w : World} {b : Nat} {l : List Nd} {t u p q : Int} {nm vl : ByteArray} (hm : NodesAt w b (kvN l)) (hn : findN l ⟨t, u⟩ = some ⟨⟨t, u⟩, ⟨p, q⟩, nm, vl⟩) :
    ∀ W, Below w.heap.size w W → (Instr.lookup 41 (.map (some b)) (.agg #[.int .i64 t, .int .i64 u]) true).run Tryd.prog W = .ok (.tuple #[.agg #[.int .i64 t, .int .i64 u, .int .i64 p, .int .i64 q, .string nm, .string vl], .bool true]) W := fun W hW => by
  have := NodesAt.look (hm.below hW hm.lt) ⟨t, u⟩
  simp only [getNd, hasNd, lookup_kvN, hn] at this
  exact this
theorem hasN_calls {w : World} {b : Nat} {l : List Nd} {t u : Int} {r : Bool} (hm : NodesAt w b (kvN l)) (hp : hasN l ⟨t, u⟩ = r) :
    ∀ W, Below w.heap.size w W → Calls Tryd.prog 71 #[.map (some b), .agg #[.int .i64 t, .int .i64 u]] W (Ret (.bool r) W) := fun W hW => by
  have := has_any W b (kvN l) t u (hm.below hW hm.lt)
  simp only [hasNd_kvN] at this
  simp only [hasN, St.outer] at hp
  rw [hp] at this
  exact this
theorem underN_calls {w : World} {b : Nat} {l : List Nd} {t u t' u' : Int} {r : Bool} (hm : NodesAt w b (kvN l)) (hr : Rooted l) (hp : underN l ⟨t, u⟩ ⟨t', u'⟩ = r) :
    ∀ W, Below w.heap.size w W → Calls Tryd.prog 72 #[.map (some b), .agg #[.int .i64 t, .int .i64 u], .agg #[.int .i64 t', .int .i64 u']] W (Ret (.bool r) W) := fun W hW => by
  refine below_any W b (kvN l) t u t' u' (l.length + 2) r (hm.below hW hm.lt) ?_
  have h := hr ⟨t, u⟩ ⟨t', u'⟩
  simp only [underN] at hp
  cases hb : belowF (kvN l) ⟨t', u'⟩ (l.length + 2) ⟨t, u⟩ with
  | none => rw [hb] at h; cases h
  | some x => rw [hb] at hp; simp at hp; rw [hp]

set_option maxRecDepth 100000 in
set_option maxHeartbeats 1000000 in
theorem do_create_yes (w : World) (b : Nat) (l : List Nd)  (at_ au nt nu pt pu : Int) (nm vl : ByteArray) (h : NodesL w b l) (hn : findN l ⟨nt, nu⟩ = none) (hp : hasN l ⟨pt, pu⟩ = true) :
    Calls Tryd.prog 43 #[.map (some b), .agg #[.int .i64 1, .int .i64 at_, .int .i64 au, .int .i64 nt, .int .i64 nu, .int .i64 pt, .int .i64 pu, .string nm, .string vl]] w (Did b (putN ⟨⟨nt, nu⟩, ⟨pt, pu⟩, nm, ⟨#[]⟩⟩ l) w) := by
  obtain ⟨hm, hr⟩ := h
  have HM := Lib.hid hm
  have HL := Lib.hid (look_none hm hn)
  have l1 := fun X => HL.out (w.alloc X) ((Below.refl _ _).alloc (Nat.le_refl _) X)
  clear HL
  have HH := Lib.hid (hasN_calls hm hp)
  clear hp
  have hlt := hm.lt
  have HR := Lib.hid hr
  clear hm hr
  have HN := Lib.hid hn
  clear hn
  go_enter Tryd.func43, Tryd.ntmps43
  go_wp2_with (first
    | (go_at_call 71; refine (HH.out _ (((Below.refl w.heap.size w).alloc (Nat.le_refl _) _).alloc (by simp) _)).mono ?_; rintro e w1 ⟨rfl, hb⟩; obtain ⟨hc, hf⟩ := bcell hb; have hB := below_up (((Below.refl w.heap.size w).alloc (Nat.le_refl _) _).alloc (by simp) _) hb (by simp; omega); have hz2 : w.heap.size + 1 < w1.heap.size := (by have hz := hb.size; simp at hz; omega); have hz1 : w.heap.size < w1.heap.size := Nat.lt_of_succ_lt hz2)
    | (at_mapUpdate; refine wpList_put (ek := St.v) (ev := Nd.v) rfl _ _ _ 41 46 rfl und_nodes keySt (b := b) (m := kvN l) rfl ?c1 ⟨nt, nu⟩ ⟨⟨nt, nu⟩, ⟨pt, pu⟩, nm, ⟨#[]⟩⟩ rfl rfl ?_; rotate_left; intro w2 hm2 hg2 hs2))
  · go_end0
    refine ⟨rfl, ⟨hm2.perm (putN_perm ⟨⟨nt, nu⟩, ⟨pt, pu⟩, nm, ⟨#[]⟩⟩ HR.out).symm, putN_rising _ HR.out⟩, Fr.grown ?_ hg2 (by simp)⟩
    repeat (first | refine Fr.setCell ?_ (Or.inr (by simp)) _ | exact Fr.of_below _ hB)
  case c1 => repeat (first | refine MapAt.set_other ?_ (by simp; omega) _ | exact HM.out.below hB hlt)

set_option maxRecDepth 100000 in
set_option maxHeartbeats 1000000 in
theorem do_create_no (w : World) (b : Nat) (l : List Nd)  (at_ au nt nu pt pu : Int) (nm vl : ByteArray) (h : NodesL w b l) (hn : findN l ⟨nt, nu⟩ = none) (hp : hasN l ⟨pt, pu⟩ = false) :
    Calls Tryd.prog 43 #[.map (some b), .agg #[.int .i64 1, .int .i64 at_, .int .i64 au, .int .i64 nt, .int .i64 nu, .int .i64 pt, .int .i64 pu, .string nm, .string vl]] w (Did b (l) w) := by
  obtain ⟨hm, hr⟩ := h
  have HM := Lib.hid hm
  have HL := Lib.hid (look_none hm hn)
  have l1 := fun X => HL.out (w.alloc X) ((Below.refl _ _).alloc (Nat.le_refl _) X)
  clear HL
  have HH := Lib.hid (hasN_calls hm hp)
  clear hp
  have hlt := hm.lt
  have HR := Lib.hid hr
  clear hm hr
  have HN := Lib.hid hn
  clear hn
  go_enter Tryd.func43, Tryd.ntmps43
  go_wp2_with (first
    | (go_at_call 71; refine (HH.out _ (((Below.refl w.heap.size w).alloc (Nat.le_refl _) _).alloc (by simp) _)).mono ?_; rintro e w1 ⟨rfl, hb⟩; obtain ⟨hc, hf⟩ := bcell hb; have hB := below_up (((Below.refl w.heap.size w).alloc (Nat.le_refl _) _).alloc (by simp) _) hb (by simp; omega); have hz2 : w.heap.size + 1 < w1.heap.size := (by have hz := hb.size; simp at hz; omega); have hz1 : w.heap.size < w1.heap.size := Nat.lt_of_succ_lt hz2))
  first
    | (go_end0; exact ⟨rfl, ⟨(HM.out.below hB hlt : NodesAt _ b (kvN l)), HR.out⟩, Fr.of_below _ hB⟩)
    | (refine bodyPost_ret (results_none rfl _ _ _) rfl ?_; exact ⟨rfl, ⟨(HM.out.below hB hlt : NodesAt _ b (kvN l)), HR.out⟩, Fr.of_below _ hB⟩)

set_option maxRecDepth 100000 in
set_option maxHeartbeats 1000000 in
theorem do_create_there (w : World) (b : Nat) (l : List Nd)  (at_ au nt nu pt pu : Int) (nm vl : ByteArray) (h : NodesL w b l) (xt xu : Int) (xn xv : ByteArray) (hn : findN l ⟨nt, nu⟩ = some ⟨⟨nt, nu⟩, ⟨xt, xu⟩, xn, xv⟩) :
    Calls Tryd.prog 43 #[.map (some b), .agg #[.int .i64 1, .int .i64 at_, .int .i64 au, .int .i64 nt, .int .i64 nu, .int .i64 pt, .int .i64 pu, .string nm, .string vl]] w (Did b (l) w) := by
  obtain ⟨hm, hr⟩ := h
  have HM := Lib.hid hm
  have HL := Lib.hid (look_some hm hn)
  have l1 := fun X => HL.out (w.alloc X) ((Below.refl _ _).alloc (Nat.le_refl _) X)
  clear HL
  have hlt := hm.lt
  have HR := Lib.hid hr
  clear hm hr
  have HN := Lib.hid hn
  clear hn
  go_enter Tryd.func43, Tryd.ntmps43
  go_wp2
  first
    | (go_end0; exact ⟨rfl, ⟨(HM.out.below (((Below.refl w.heap.size w).alloc (Nat.le_refl _) _).alloc (by simp) _) hlt : NodesAt _ b (kvN l)), HR.out⟩, Fr.of_below _ (((Below.refl w.heap.size w).alloc (Nat.le_refl _) _).alloc (by simp) _)⟩)
    | (refine bodyPost_ret (results_none rfl _ _ _) rfl ?_; exact ⟨rfl, ⟨(HM.out.below (((Below.refl w.heap.size w).alloc (Nat.le_refl _) _).alloc (by simp) _) hlt : NodesAt _ b (kvN l)), HR.out⟩, Fr.of_below _ (((Below.refl w.heap.size w).alloc (Nat.le_refl _) _).alloc (by simp) _)⟩)

set_option maxRecDepth 100000 in
set_option maxHeartbeats 1000000 in
theorem do_none (w : World) (b : Nat) (l : List Nd) (k : Int) (at_ au nt nu pt pu : Int) (nm vl : ByteArray) (h : NodesL w b l) (hn : findN l ⟨nt, nu⟩ = none) (hk1 : k ≠ 1) (hk5 : k ≠ 5) :
    Calls Tryd.prog 43 #[.map (some b), .agg #[.int .i64 k, .int .i64 at_, .int .i64 au, .int .i64 nt, .int .i64 nu, .int .i64 pt, .int .i64 pu, .string nm, .string vl]] w (Did b (l) w) := by
  obtain ⟨hm, hr⟩ := h
  have HM := Lib.hid hm
  have HL := Lib.hid (look_none hm hn)
  have l1 := fun X => HL.out (w.alloc X) ((Below.refl _ _).alloc (Nat.le_refl _) X)
  clear HL
  have hlt := hm.lt
  have HR := Lib.hid hr
  clear hm hr
  have HN := Lib.hid hn
  clear hn
  have e1 : (k == 1) = false := by simpa using hk1
  have e5 : (k == 5) = false := by simpa using hk5
  clear hk1 hk5
  go_enter Tryd.func43, Tryd.ntmps43
  go_wp2
  first
    | (go_end0; exact ⟨rfl, ⟨(HM.out.below (((Below.refl w.heap.size w).alloc (Nat.le_refl _) _).alloc (by simp) _) hlt : NodesAt _ b (kvN l)), HR.out⟩, Fr.of_below _ (((Below.refl w.heap.size w).alloc (Nat.le_refl _) _).alloc (by simp) _)⟩)
    | (refine bodyPost_ret (results_none rfl _ _ _) rfl ?_; exact ⟨rfl, ⟨(HM.out.below (((Below.refl w.heap.size w).alloc (Nat.le_refl _) _).alloc (by simp) _) hlt : NodesAt _ b (kvN l)), HR.out⟩, Fr.of_below _ (((Below.refl w.heap.size w).alloc (Nat.le_refl _) _).alloc (by simp) _)⟩)

set_option maxRecDepth 100000 in
set_option maxHeartbeats 1000000 in
theorem do_none5 (w : World) (b : Nat) (l : List Nd)  (at_ au nt nu pt pu : Int) (nm vl : ByteArray) (h : NodesL w b l) (hn : findN l ⟨nt, nu⟩ = none) :
    Calls Tryd.prog 43 #[.map (some b), .agg #[.int .i64 5, .int .i64 at_, .int .i64 au, .int .i64 nt, .int .i64 nu, .int .i64 pt, .int .i64 pu, .string nm, .string vl]] w (Did b (l) w) := by
  obtain ⟨hm, hr⟩ := h
  have HM := Lib.hid hm
  have HL := Lib.hid (look_none hm hn)
  have l1 := fun X => HL.out (w.alloc X) ((Below.refl _ _).alloc (Nat.le_refl _) X)
  clear HL
  have hlt := hm.lt
  have HR := Lib.hid hr
  clear hm hr
  have HN := Lib.hid hn
  clear hn
  go_enter Tryd.func43, Tryd.ntmps43
  go_wp2
  first
    | (go_end0; exact ⟨rfl, ⟨(HM.out.below (((Below.refl w.heap.size w).alloc (Nat.le_refl _) _).alloc (by simp) _) hlt : NodesAt _ b (kvN l)), HR.out⟩, Fr.of_below _ (((Below.refl w.heap.size w).alloc (Nat.le_refl _) _).alloc (by simp) _)⟩)
    | (refine bodyPost_ret (results_none rfl _ _ _) rfl ?_; exact ⟨rfl, ⟨(HM.out.below (((Below.refl w.heap.size w).alloc (Nat.le_refl _) _).alloc (by simp) _) hlt : NodesAt _ b (kvN l)), HR.out⟩, Fr.of_below _ (((Below.refl w.heap.size w).alloc (Nat.le_refl _) _).alloc (by simp) _)⟩)

set_option maxRecDepth 100000 in
set_option maxHeartbeats 1000000 in
theorem do_move_yes (w : World) (b : Nat) (l : List Nd)  (at_ au nt nu pt pu : Int) (nm vl : ByteArray) (h : NodesL w b l) (xt xu : Int) (xn xv : ByteArray) (hn : findN l ⟨nt, nu⟩ = some ⟨⟨nt, nu⟩, ⟨xt, xu⟩, xn, xv⟩) (hrt : Rooted l) (hp : hasN l ⟨pt, pu⟩ = true) (hu : underN l ⟨pt, pu⟩ ⟨nt, nu⟩ = false) :
    Calls Tryd.prog 43 #[.map (some b), .agg #[.int .i64 2, .int .i64 at_, .int .i64 au, .int .i64 nt, .int .i64 nu, .int .i64 pt, .int .i64 pu, .string nm, .string vl]] w (Did b (putN ⟨⟨nt, nu⟩, ⟨pt, pu⟩, xn, xv⟩ l) w) := by
  obtain ⟨hm, hr⟩ := h
  have HM := Lib.hid hm
  have HL := Lib.hid (look_some hm hn)
  have l1 := fun X => HL.out (w.alloc X) ((Below.refl _ _).alloc (Nat.le_refl _) X)
  clear HL
  have HH := Lib.hid (hasN_calls hm hp)
  clear hp
  have HU := Lib.hid (underN_calls hm hrt hu)
  clear hu hrt
  have hlt := hm.lt
  have HR := Lib.hid hr
  clear hm hr
  have HN := Lib.hid hn
  clear hn
  go_enter Tryd.func43, Tryd.ntmps43
  go_wp2_with (first
    | (go_at_call 71; refine (HH.out _ (((Below.refl w.heap.size w).alloc (Nat.le_refl _) _).alloc (by simp) _)).mono ?_; rintro e w1 ⟨rfl, hb⟩; obtain ⟨hc, hf⟩ := bcell hb; have hB := below_up (((Below.refl w.heap.size w).alloc (Nat.le_refl _) _).alloc (by simp) _) hb (by simp; omega); have hz2 : w.heap.size + 1 < w1.heap.size := (by have hz := hb.size; simp at hz; omega); have hz1 : w.heap.size < w1.heap.size := Nat.lt_of_succ_lt hz2)
    | (go_at_call 72; refine (HU.out _ hB).mono ?_; rintro e w3 ⟨rfl, hb3⟩; obtain ⟨hc3, hf3⟩ := bcell hb3; have hB3 := below_up hB hb3 (by omega))
    | (at_mapUpdate; refine wpList_put (ek := St.v) (ev := Nd.v) rfl _ _ _ 41 46 rfl und_nodes keySt (b := b) (m := kvN l) rfl ?c1 ⟨nt, nu⟩ ⟨⟨nt, nu⟩, ⟨pt, pu⟩, xn, xv⟩ rfl rfl ?_; rotate_left; intro w2 hm2 hg2 hs2))
  · go_end0
    refine ⟨rfl, ⟨hm2.perm (putN_perm ⟨⟨nt, nu⟩, ⟨pt, pu⟩, xn, xv⟩ HR.out).symm, putN_rising _ HR.out⟩, Fr.grown ?_ hg2 (by simp)⟩
    repeat (first | refine Fr.setCell ?_ (Or.inr (by simp)) _ | exact Fr.of_below _ hB3)
  case c1 => repeat (first | refine MapAt.set_other ?_ (by simp; omega) _ | exact HM.out.below hB3 hlt)

set_option maxRecDepth 100000 in
set_option maxHeartbeats 1000000 in
theorem do_move_under (w : World) (b : Nat) (l : List Nd)  (at_ au nt nu pt pu : Int) (nm vl : ByteArray) (h : NodesL w b l) (xt xu : Int) (xn xv : ByteArray) (hn : findN l ⟨nt, nu⟩ = some ⟨⟨nt, nu⟩, ⟨xt, xu⟩, xn, xv⟩) (hrt : Rooted l) (hp : hasN l ⟨pt, pu⟩ = true) (hu : underN l ⟨pt, pu⟩ ⟨nt, nu⟩ = true) :
    Calls Tryd.prog 43 #[.map (some b), .agg #[.int .i64 2, .int .i64 at_, .int .i64 au, .int .i64 nt, .int .i64 nu, .int .i64 pt, .int .i64 pu, .string nm, .string vl]] w (Did b (l) w) := by
  obtain ⟨hm, hr⟩ := h
  have HM := Lib.hid hm
  have HL := Lib.hid (look_some hm hn)
  have l1 := fun X => HL.out (w.alloc X) ((Below.refl _ _).alloc (Nat.le_refl _) X)
  clear HL
  have HH := Lib.hid (hasN_calls hm hp)
  clear hp
  have HU := Lib.hid (underN_calls hm hrt hu)
  clear hu hrt
  have hlt := hm.lt
  have HR := Lib.hid hr
  clear hm hr
  have HN := Lib.hid hn
  clear hn
  go_enter Tryd.func43, Tryd.ntmps43
  go_wp2_with (first
    | (go_at_call 71; refine (HH.out _ (((Below.refl w.heap.size w).alloc (Nat.le_refl _) _).alloc (by simp) _)).mono ?_; rintro e w1 ⟨rfl, hb⟩; obtain ⟨hc, hf⟩ := bcell hb; have hB := below_up (((Below.refl w.heap.size w).alloc (Nat.le_refl _) _).alloc (by simp) _) hb (by simp; omega); have hz2 : w.heap.size + 1 < w1.heap.size := (by have hz := hb.size; simp at hz; omega); have hz1 : w.heap.size < w1.heap.size := Nat.lt_of_succ_lt hz2)
    | (go_at_call 72; refine (HU.out _ hB).mono ?_; rintro e w3 ⟨rfl, hb3⟩; obtain ⟨hc3, hf3⟩ := bcell hb3; have hB3 := below_up hB hb3 (by omega)))
  first
    | (go_end0; exact ⟨rfl, ⟨(HM.out.below hB3 hlt : NodesAt _ b (kvN l)), HR.out⟩, Fr.of_below _ hB3⟩)
    | (refine bodyPost_ret (results_none rfl _ _ _) rfl ?_; exact ⟨rfl, ⟨(HM.out.below hB3 hlt : NodesAt _ b (kvN l)), HR.out⟩, Fr.of_below _ hB3⟩)

set_option maxRecDepth 100000 in
set_option maxHeartbeats 1000000 in
theorem do_move_no (w : World) (b : Nat) (l : List Nd)  (at_ au nt nu pt pu : Int) (nm vl : ByteArray) (h : NodesL w b l) (xt xu : Int) (xn xv : ByteArray) (hn : findN l ⟨nt, nu⟩ = some ⟨⟨nt, nu⟩, ⟨xt, xu⟩, xn, xv⟩) (hp : hasN l ⟨pt, pu⟩ = false) :
    Calls Tryd.prog 43 #[.map (some b), .agg #[.int .i64 2, .int .i64 at_, .int .i64 au, .int .i64 nt, .int .i64 nu, .int .i64 pt, .int .i64 pu, .string nm, .string vl]] w (Did b (l) w) := by
  obtain ⟨hm, hr⟩ := h
  have HM := Lib.hid hm
  have HL := Lib.hid (look_some hm hn)
  have l1 := fun X => HL.out (w.alloc X) ((Below.refl _ _).alloc (Nat.le_refl _) X)
  clear HL
  have HH := Lib.hid (hasN_calls hm hp)
  clear hp
  have hlt := hm.lt
  have HR := Lib.hid hr
  clear hm hr
  have HN := Lib.hid hn
  clear hn
  go_enter Tryd.func43, Tryd.ntmps43
  go_wp2_with (first
    | (go_at_call 71; refine (HH.out _ (((Below.refl w.heap.size w).alloc (Nat.le_refl _) _).alloc (by simp) _)).mono ?_; rintro e w1 ⟨rfl, hb⟩; obtain ⟨hc, hf⟩ := bcell hb; have hB := below_up (((Below.refl w.heap.size w).alloc (Nat.le_refl _) _).alloc (by simp) _) hb (by simp; omega); have hz2 : w.heap.size + 1 < w1.heap.size := (by have hz := hb.size; simp at hz; omega); have hz1 : w.heap.size < w1.heap.size := Nat.lt_of_succ_lt hz2))
  first
    | (go_end0; exact ⟨rfl, ⟨(HM.out.below hB hlt : NodesAt _ b (kvN l)), HR.out⟩, Fr.of_below _ hB⟩)
    | (refine bodyPost_ret (results_none rfl _ _ _) rfl ?_; exact ⟨rfl, ⟨(HM.out.below hB hlt : NodesAt _ b (kvN l)), HR.out⟩, Fr.of_below _ hB⟩)

set_option maxRecDepth 100000 in
set_option maxHeartbeats 1000000 in
theorem do_trash_yes (w : World) (b : Nat) (l : List Nd)  (at_ au nt nu pt pu : Int) (nm vl : ByteArray) (h : NodesL w b l) (xt xu : Int) (xn xv : ByteArray) (hn : findN l ⟨nt, nu⟩ = some ⟨⟨nt, nu⟩, ⟨xt, xu⟩, xn, xv⟩) (hrt : Rooted l) (hp : hasN l ⟨0, 1⟩ = true) (hu : underN l ⟨0, 1⟩ ⟨nt, nu⟩ = false) :
    Calls Tryd.prog 43 #[.map (some b), .agg #[.int .i64 5, .int .i64 at_, .int .i64 au, .int .i64 nt, .int .i64 nu, .int .i64 pt, .int .i64 pu, .string nm, .string vl]] w (Did b (putN ⟨⟨nt, nu⟩, ⟨0, 1⟩, xn, xv⟩ l) w) := by
  obtain ⟨hm, hr⟩ := h
  have HM := Lib.hid hm
  have HL := Lib.hid (look_some hm hn)
  have l1 := fun X => HL.out (w.alloc X) ((Below.refl _ _).alloc (Nat.le_refl _) X)
  clear HL
  have HH := Lib.hid (hasN_calls hm hp)
  clear hp
  have HU := Lib.hid (underN_calls hm hrt hu)
  clear hu hrt
  have hlt := hm.lt
  have HR := Lib.hid hr
  clear hm hr
  have HN := Lib.hid hn
  clear hn
  go_enter Tryd.func43, Tryd.ntmps43
  go_wp2_with (first
    | (go_at_call 71; refine (HH.out _ (((Below.refl w.heap.size w).alloc (Nat.le_refl _) _).alloc (by simp) _)).mono ?_; rintro e w1 ⟨rfl, hb⟩; obtain ⟨hc, hf⟩ := bcell hb; have hB := below_up (((Below.refl w.heap.size w).alloc (Nat.le_refl _) _).alloc (by simp) _) hb (by simp; omega); have hz2 : w.heap.size + 1 < w1.heap.size := (by have hz := hb.size; simp at hz; omega); have hz1 : w.heap.size < w1.heap.size := Nat.lt_of_succ_lt hz2)
    | (go_at_call 72; refine (HU.out _ hB).mono ?_; rintro e w3 ⟨rfl, hb3⟩; obtain ⟨hc3, hf3⟩ := bcell hb3; have hB3 := below_up hB hb3 (by omega))
    | (at_mapUpdate; refine wpList_put (ek := St.v) (ev := Nd.v) rfl _ _ _ 41 46 rfl und_nodes keySt (b := b) (m := kvN l) rfl ?c1 ⟨nt, nu⟩ ⟨⟨nt, nu⟩, ⟨0, 1⟩, xn, xv⟩ rfl rfl ?_; rotate_left; intro w2 hm2 hg2 hs2))
  · go_end0
    refine ⟨rfl, ⟨hm2.perm (putN_perm ⟨⟨nt, nu⟩, ⟨0, 1⟩, xn, xv⟩ HR.out).symm, putN_rising _ HR.out⟩, Fr.grown ?_ hg2 (by simp)⟩
    repeat (first | refine Fr.setCell ?_ (Or.inr (by simp)) _ | exact Fr.of_below _ hB3)
  case c1 => repeat (first | refine MapAt.set_other ?_ (by simp; omega) _ | exact HM.out.below hB3 hlt)

set_option maxRecDepth 100000 in
set_option maxHeartbeats 1000000 in
theorem do_trash_under (w : World) (b : Nat) (l : List Nd)  (at_ au nt nu pt pu : Int) (nm vl : ByteArray) (h : NodesL w b l) (xt xu : Int) (xn xv : ByteArray) (hn : findN l ⟨nt, nu⟩ = some ⟨⟨nt, nu⟩, ⟨xt, xu⟩, xn, xv⟩) (hrt : Rooted l) (hp : hasN l ⟨0, 1⟩ = true) (hu : underN l ⟨0, 1⟩ ⟨nt, nu⟩ = true) :
    Calls Tryd.prog 43 #[.map (some b), .agg #[.int .i64 5, .int .i64 at_, .int .i64 au, .int .i64 nt, .int .i64 nu, .int .i64 pt, .int .i64 pu, .string nm, .string vl]] w (Did b (l) w) := by
  obtain ⟨hm, hr⟩ := h
  have HM := Lib.hid hm
  have HL := Lib.hid (look_some hm hn)
  have l1 := fun X => HL.out (w.alloc X) ((Below.refl _ _).alloc (Nat.le_refl _) X)
  clear HL
  have HH := Lib.hid (hasN_calls hm hp)
  clear hp
  have HU := Lib.hid (underN_calls hm hrt hu)
  clear hu hrt
  have hlt := hm.lt
  have HR := Lib.hid hr
  clear hm hr
  have HN := Lib.hid hn
  clear hn
  go_enter Tryd.func43, Tryd.ntmps43
  go_wp2_with (first
    | (go_at_call 71; refine (HH.out _ (((Below.refl w.heap.size w).alloc (Nat.le_refl _) _).alloc (by simp) _)).mono ?_; rintro e w1 ⟨rfl, hb⟩; obtain ⟨hc, hf⟩ := bcell hb; have hB := below_up (((Below.refl w.heap.size w).alloc (Nat.le_refl _) _).alloc (by simp) _) hb (by simp; omega); have hz2 : w.heap.size + 1 < w1.heap.size := (by have hz := hb.size; simp at hz; omega); have hz1 : w.heap.size < w1.heap.size := Nat.lt_of_succ_lt hz2)
    | (go_at_call 72; refine (HU.out _ hB).mono ?_; rintro e w3 ⟨rfl, hb3⟩; obtain ⟨hc3, hf3⟩ := bcell hb3; have hB3 := below_up hB hb3 (by omega)))
  first
    | (go_end0; exact ⟨rfl, ⟨(HM.out.below hB3 hlt : NodesAt _ b (kvN l)), HR.out⟩, Fr.of_below _ hB3⟩)
    | (refine bodyPost_ret (results_none rfl _ _ _) rfl ?_; exact ⟨rfl, ⟨(HM.out.below hB3 hlt : NodesAt _ b (kvN l)), HR.out⟩, Fr.of_below _ hB3⟩)

set_option maxRecDepth 100000 in
set_option maxHeartbeats 1000000 in
theorem do_trash_no (w : World) (b : Nat) (l : List Nd)  (at_ au nt nu pt pu : Int) (nm vl : ByteArray) (h : NodesL w b l) (xt xu : Int) (xn xv : ByteArray) (hn : findN l ⟨nt, nu⟩ = some ⟨⟨nt, nu⟩, ⟨xt, xu⟩, xn, xv⟩) (hp : hasN l ⟨0, 1⟩ = false) :
    Calls Tryd.prog 43 #[.map (some b), .agg #[.int .i64 5, .int .i64 at_, .int .i64 au, .int .i64 nt, .int .i64 nu, .int .i64 pt, .int .i64 pu, .string nm, .string vl]] w (Did b (l) w) := by
  obtain ⟨hm, hr⟩ := h
  have HM := Lib.hid hm
  have HL := Lib.hid (look_some hm hn)
  have l1 := fun X => HL.out (w.alloc X) ((Below.refl _ _).alloc (Nat.le_refl _) X)
  clear HL
  have HH := Lib.hid (hasN_calls hm hp)
  clear hp
  have hlt := hm.lt
  have HR := Lib.hid hr
  clear hm hr
  have HN := Lib.hid hn
  clear hn
  go_enter Tryd.func43, Tryd.ntmps43
  go_wp2_with (first
    | (go_at_call 71; refine (HH.out _ (((Below.refl w.heap.size w).alloc (Nat.le_refl _) _).alloc (by simp) _)).mono ?_; rintro e w1 ⟨rfl, hb⟩; obtain ⟨hc, hf⟩ := bcell hb; have hB := below_up (((Below.refl w.heap.size w).alloc (Nat.le_refl _) _).alloc (by simp) _) hb (by simp; omega); have hz2 : w.heap.size + 1 < w1.heap.size := (by have hz := hb.size; simp at hz; omega); have hz1 : w.heap.size < w1.heap.size := Nat.lt_of_succ_lt hz2))
  first
    | (go_end0; exact ⟨rfl, ⟨(HM.out.below hB hlt : NodesAt _ b (kvN l)), HR.out⟩, Fr.of_below _ hB⟩)
    | (refine bodyPost_ret (results_none rfl _ _ _) rfl ?_; exact ⟨rfl, ⟨(HM.out.below hB hlt : NodesAt _ b (kvN l)), HR.out⟩, Fr.of_below _ hB⟩)

set_option maxRecDepth 100000 in
set_option maxHeartbeats 1000000 in
theorem do_rename (w : World) (b : Nat) (l : List Nd)  (at_ au nt nu pt pu : Int) (nm vl : ByteArray) (h : NodesL w b l) (xt xu : Int) (xn xv : ByteArray) (hn : findN l ⟨nt, nu⟩ = some ⟨⟨nt, nu⟩, ⟨xt, xu⟩, xn, xv⟩) :
    Calls Tryd.prog 43 #[.map (some b), .agg #[.int .i64 3, .int .i64 at_, .int .i64 au, .int .i64 nt, .int .i64 nu, .int .i64 pt, .int .i64 pu, .string nm, .string vl]] w (Did b (putN ⟨⟨nt, nu⟩, ⟨xt, xu⟩, nm, xv⟩ l) w) := by
  obtain ⟨hm, hr⟩ := h
  have HM := Lib.hid hm
  have HL := Lib.hid (look_some hm hn)
  have l1 := fun X => HL.out (w.alloc X) ((Below.refl _ _).alloc (Nat.le_refl _) X)
  clear HL
  have hlt := hm.lt
  have HR := Lib.hid hr
  clear hm hr
  have HN := Lib.hid hn
  clear hn
  go_enter Tryd.func43, Tryd.ntmps43
  go_wp2_with (first
    | (at_mapUpdate; refine wpList_put (ek := St.v) (ev := Nd.v) rfl _ _ _ 41 46 rfl und_nodes keySt (b := b) (m := kvN l) rfl ?c1 ⟨nt, nu⟩ ⟨⟨nt, nu⟩, ⟨xt, xu⟩, nm, xv⟩ rfl rfl ?_; rotate_left; intro w2 hm2 hg2 hs2))
  · go_end0
    refine ⟨rfl, ⟨hm2.perm (putN_perm ⟨⟨nt, nu⟩, ⟨xt, xu⟩, nm, xv⟩ HR.out).symm, putN_rising _ HR.out⟩, Fr.grown ?_ hg2 (by simp)⟩
    repeat (first | refine Fr.setCell ?_ (Or.inr (by simp)) _ | exact Fr.of_below _ (((Below.refl w.heap.size w).alloc (Nat.le_refl _) _).alloc (by simp) _))
  case c1 => repeat (first | refine MapAt.set_other ?_ (by simp; omega) _ | exact HM.out.below (((Below.refl w.heap.size w).alloc (Nat.le_refl _) _).alloc (by simp) _) hlt)

set_option maxRecDepth 100000 in
set_option maxHeartbeats 1000000 in
theorem do_set (w : World) (b : Nat) (l : List Nd)  (at_ au nt nu pt pu : Int) (nm vl : ByteArray) (h : NodesL w b l) (xt xu : Int) (xn xv : ByteArray) (hn : findN l ⟨nt, nu⟩ = some ⟨⟨nt, nu⟩, ⟨xt, xu⟩, xn, xv⟩) :
    Calls Tryd.prog 43 #[.map (some b), .agg #[.int .i64 4, .int .i64 at_, .int .i64 au, .int .i64 nt, .int .i64 nu, .int .i64 pt, .int .i64 pu, .string nm, .string vl]] w (Did b (putN ⟨⟨nt, nu⟩, ⟨xt, xu⟩, xn, vl⟩ l) w) := by
  obtain ⟨hm, hr⟩ := h
  have HM := Lib.hid hm
  have HL := Lib.hid (look_some hm hn)
  have l1 := fun X => HL.out (w.alloc X) ((Below.refl _ _).alloc (Nat.le_refl _) X)
  clear HL
  have hlt := hm.lt
  have HR := Lib.hid hr
  clear hm hr
  have HN := Lib.hid hn
  clear hn
  go_enter Tryd.func43, Tryd.ntmps43
  go_wp2_with (first
    | (at_mapUpdate; refine wpList_put (ek := St.v) (ev := Nd.v) rfl _ _ _ 41 46 rfl und_nodes keySt (b := b) (m := kvN l) rfl ?c1 ⟨nt, nu⟩ ⟨⟨nt, nu⟩, ⟨xt, xu⟩, xn, vl⟩ rfl rfl ?_; rotate_left; intro w2 hm2 hg2 hs2))
  · go_end0
    refine ⟨rfl, ⟨hm2.perm (putN_perm ⟨⟨nt, nu⟩, ⟨xt, xu⟩, xn, vl⟩ HR.out).symm, putN_rising _ HR.out⟩, Fr.grown ?_ hg2 (by simp)⟩
    repeat (first | refine Fr.setCell ?_ (Or.inr (by simp)) _ | exact Fr.of_below _ (((Below.refl w.heap.size w).alloc (Nat.le_refl _) _).alloc (by simp) _))
  case c1 => repeat (first | refine MapAt.set_other ?_ (by simp; omega) _ | exact HM.out.below (((Below.refl w.heap.size w).alloc (Nat.le_refl _) _).alloc (by simp) _) hlt)

set_option maxRecDepth 100000 in
set_option maxHeartbeats 1000000 in
theorem do_other (w : World) (b : Nat) (l : List Nd) (k : Int) (at_ au nt nu pt pu : Int) (nm vl : ByteArray) (h : NodesL w b l) (xt xu : Int) (xn xv : ByteArray) (hn : findN l ⟨nt, nu⟩ = some ⟨⟨nt, nu⟩, ⟨xt, xu⟩, xn, xv⟩) (hk1 : k ≠ 1) (hk2 : k ≠ 2) (hk3 : k ≠ 3) (hk4 : k ≠ 4) (hk5 : k ≠ 5) :
    Calls Tryd.prog 43 #[.map (some b), .agg #[.int .i64 k, .int .i64 at_, .int .i64 au, .int .i64 nt, .int .i64 nu, .int .i64 pt, .int .i64 pu, .string nm, .string vl]] w (Did b (putN ⟨⟨nt, nu⟩, ⟨xt, xu⟩, xn, xv⟩ l) w) := by
  obtain ⟨hm, hr⟩ := h
  have HM := Lib.hid hm
  have HL := Lib.hid (look_some hm hn)
  have l1 := fun X => HL.out (w.alloc X) ((Below.refl _ _).alloc (Nat.le_refl _) X)
  clear HL
  have hlt := hm.lt
  have HR := Lib.hid hr
  clear hm hr
  have HN := Lib.hid hn
  clear hn
  have e1 : (k == 1) = false := by simpa using hk1
  have e2 : (k == 2) = false := by simpa using hk2
  have e3 : (k == 3) = false := by simpa using hk3
  have e4 : (k == 4) = false := by simpa using hk4
  have e5 : (k == 5) = false := by simpa using hk5
  clear hk1 hk2 hk3 hk4 hk5
  go_enter Tryd.func43, Tryd.ntmps43
  go_wp2_with (first
    | (at_mapUpdate; refine wpList_put (ek := St.v) (ev := Nd.v) rfl _ _ _ 41 46 rfl und_nodes keySt (b := b) (m := kvN l) rfl ?c1 ⟨nt, nu⟩ ⟨⟨nt, nu⟩, ⟨xt, xu⟩, xn, xv⟩ rfl rfl ?_; rotate_left; intro w2 hm2 hg2 hs2))
  · go_end0
    refine ⟨rfl, ⟨hm2.perm (putN_perm ⟨⟨nt, nu⟩, ⟨xt, xu⟩, xn, xv⟩ HR.out).symm, putN_rising _ HR.out⟩, Fr.grown ?_ hg2 (by simp)⟩
    repeat (first | refine Fr.setCell ?_ (Or.inr (by simp)) _ | exact Fr.of_below _ (((Below.refl w.heap.size w).alloc (Nat.le_refl _) _).alloc (by simp) _))
  case c1 => repeat (first | refine MapAt.set_other ?_ (by simp; omega) _ | exact HM.out.below (((Below.refl w.heap.size w).alloc (Nat.le_refl _) _).alloc (by simp) _) hlt)

end Go.Proofs.YteghkajegdcbjaaDoor
