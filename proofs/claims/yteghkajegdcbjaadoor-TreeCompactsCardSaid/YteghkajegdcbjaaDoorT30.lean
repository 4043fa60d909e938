/-
  TreeCompacts: the walk.
-/
import Derived.Test.YteghkajegdcbjaaDoorT26
import Derived.Test.YteghkajegdcbjaaDoorT29
import Derived.Test.YteghkajegdcbjaaDoorP6
namespace Go.Proofs.YteghkajegdcbjaaDoor
open Go.RowKit
set_option maxRecDepth 100000
set_option maxHeartbeats 8000000
set_option linter.unusedVariables false
set_option linter.unusedSimpArgs false
attribute [local go_sem ↓] Go.wp_at_zero Go.wp_at_succ

/-- Two trees that share no block. -/
structure Two (w0 wr : World) (ta tb : Nat) (Fa Fb : List Nat) (A B : Tr) : Prop where
  a : TreeAt wr ta Fa A
  b : TreeAt wr tb Fb B
  la : ∀ x ∈ Fa, w0.heap.size ≤ x
  lb : ∀ x ∈ Fb, w0.heap.size ≤ x
  ne : ∀ x ∈ Fa, x ∉ Fb
  low : Below w0.heap.size w0 wr
theorem Two.below {w0 wr w' : World} {ta tb : Nat} {Fa Fb : List Nat} {A B : Tr} (h : Two w0 wr ta tb Fa Fb A B) (hb : Below wr.heap.size wr w') : Two w0 w' ta tb Fa Fb A B :=
  ⟨h.a.below hb h.a.lt, h.b.below hb h.b.lt, h.la, h.lb, h.ne, below_up h.low hb h.low.size⟩
/-- The first one has been written. -/
theorem Two.left {w0 wr w' : World} {ta tb : Nat} {Fa Fb F2 : List Nat} {A B A' : Tr} (h : Two w0 wr ta tb Fa Fb A B) (ht : TreeAt w' ta F2 A') (hf : Fr Fa wr w') (hx : ∀ x ∈ F2, x ∈ Fa ∨ wr.heap.size ≤ x) : Two w0 w' ta tb F2 Fb A' B where
  a := ht
  b := h.b.fr hf (fun k hk hm => h.ne k hm hk)
  la := fun x hx2 => by rcases hx x hx2 with h1 | h1; exact h.la x h1; have := h.low.size; omega
  lb := h.lb
  ne := fun x h1 h2 => by
    rcases hx x h1 with h3 | h3
    · exact h.ne x h3 h2
    · have := h.b.lt x h2; omega
  low := h.low.trans (hf.below_of h.low.size h.la)
/-- The second one has been written. -/
theorem Two.right {w0 wr w' : World} {ta tb : Nat} {Fa Fb F2 : List Nat} {A B B' : Tr} (h : Two w0 wr ta tb Fa Fb A B) (ht : TreeAt w' tb F2 B') (hf : Fr Fb wr w') (hx : ∀ x ∈ F2, x ∈ Fb ∨ wr.heap.size ≤ x) : Two w0 w' ta tb Fa F2 A B' where
  a := h.a.fr hf (fun k hk hm => h.ne k hk hm)
  b := ht
  la := h.la
  lb := fun x hx2 => by rcases hx x hx2 with h1 | h1; exact h.lb x h1; have := h.low.size; omega
  ne := fun x h1 h2 => by
    rcases hx x h2 with h3 | h3
    · exact h.ne x h1 h3
    · have := h.a.lt x h1; omega
  low := h.low.trans (hf.below_of h.low.size h.lb)
theorem Two.tabs {w0 wr : World} {ta tb : Nat} {Fa Fb : List Nat} {A B : Tr} (h : Two w0 wr ta tb Fa Fb A B) (hT : Tabs w0) : Tabs wr := Tabs.below hT h.low (Nat.le_refl _)
/-- Apply at either. -/
theorem Two.apply_a {w0 wr : World} {ta tb : Nat} {Fa Fb : List Nat} {A B : Tr} (h : Two w0 wr ta tb Fa Fb A B) (hT : Tabs w0) (hI : Inv A) (k a b c d x y : Int) (nm vl : ByteArray) (hs : nm.size ≤ 4611686018427387904) :
    Calls Tryd.prog 13 #[.pointer (some ⟨ta, 0, none⟩), .agg #[.int .i64 k, .int .i64 a, .int .i64 b, .int .i64 c, .int .i64 d, .int .i64 x, .int .i64 y, .string nm, .string vl]] wr fun e w' =>
      e = .returned (.int .i64 (applyN A ⟨k, ⟨a, b⟩, ⟨c, d⟩, ⟨x, y⟩, nm, vl⟩).2) ∧ (∃ F2, Two w0 w' ta tb F2 Fb (applyN A ⟨k, ⟨a, b⟩, ⟨c, d⟩, ⟨x, y⟩, nm, vl⟩).1 B) ∧ Fr Fa wr w' :=
  (apply_any wr ta Fa A ⟨k, ⟨a, b⟩, ⟨c, d⟩, ⟨x, y⟩, nm, vl⟩ h.a hI (h.tabs hT) hs).mono (by
    rintro e w' ⟨F2, rfl, h1, h2, h3⟩
    exact ⟨rfl, ⟨F2, h.left h1 h2 h3⟩, h2⟩)
theorem Two.apply_b {w0 wr : World} {ta tb : Nat} {Fa Fb : List Nat} {A B : Tr} (h : Two w0 wr ta tb Fa Fb A B) (hT : Tabs w0) (hI : Inv B) (k a b c d x y : Int) (nm vl : ByteArray) (hs : nm.size ≤ 4611686018427387904) :
    Calls Tryd.prog 13 #[.pointer (some ⟨tb, 0, none⟩), .agg #[.int .i64 k, .int .i64 a, .int .i64 b, .int .i64 c, .int .i64 d, .int .i64 x, .int .i64 y, .string nm, .string vl]] wr fun e w' =>
      e = .returned (.int .i64 (applyN B ⟨k, ⟨a, b⟩, ⟨c, d⟩, ⟨x, y⟩, nm, vl⟩).2) ∧ (∃ F2, Two w0 w' ta tb Fa F2 A (applyN B ⟨k, ⟨a, b⟩, ⟨c, d⟩, ⟨x, y⟩, nm, vl⟩).1) ∧ Fr Fb wr w' :=
  (apply_any wr tb Fb B ⟨k, ⟨a, b⟩, ⟨c, d⟩, ⟨x, y⟩, nm, vl⟩ h.b hI (h.tabs hT) hs).mono (by
    rintro e w' ⟨F2, rfl, h1, h2, h3⟩
    exact ⟨rfl, ⟨F2, h.right h1 h2 h3⟩, h2⟩)
theorem few_size {l : List Opn} {o : Opn} (h : fewB l = true) (ho : o ∈ l) : o.nm.size ≤ 4611686018427387904 := by
  simp only [fewB, Bool.and_eq_true] at h
  have h1 := List.all_eq_true.1 h.2 o ho
  simp only [lightB, Bool.and_eq_true, decide_eq_true_eq] at h1
  omega
theorem inv_now {T : Tr} (h : Inv T) : T.now.length ≤ 100000 := by
  have h1 := foldN_len h.wf T.ops
  have h2 := h.room
  rw [h.now]
  omega
theorem and_low (x : Int) : 0 ≤ bits .and .i64 x 65535 ∧ bits .and .i64 x 65535 ≤ 65535 := by
  have h : ((BitVec.ofInt 64 x) &&& (BitVec.ofInt 64 65535)).toNat ≤ 65535 := by
    rw [BitVec.toNat_and]
    exact Nat.and_le_right
  have e : bits .and .i64 x 65535 = IntKind.i64.wrap (((BitVec.ofInt 64 x) &&& (BitVec.ofInt 64 65535)).toNat : Int) := rfl
  rw [e, IntKind.wrap_i64]
  omega
theorem upto_low (x : Int) : 1 ≤ wrap64 (1 + (bits BinOp.and IntKind.i64 x 65535).tmod 1000) ∧ wrap64 (1 + (bits BinOp.and IntKind.i64 x 65535).tmod 1000) ≤ 1000 := by
  obtain ⟨h1, h2⟩ := and_low x
  rw [Int.tmod_eq_emod_of_nonneg h1]
  unfold wrap64
  omega
theorem made_list {w : World} {e : Ending} {w' : World} {l : List Nd} (h : Listed l w e w') : ∃ v, e = .returned v ∧ SlN w' v l ∧ Below w.heap.size w w' := by
  obtain ⟨v, rfl, ho, _, hb⟩ := h
  exact ⟨v, rfl, slN_own ho, hb⟩
theorem made_ops {w : World} {e : Ending} {w' : World} {l : List Opn} (h : ListedO l w e w') : ∃ A cap, e = .returned (.slice A l.length cap) ∧ Below w.heap.size w w' := by
  obtain ⟨v, rfl, ho, hb⟩ := h
  rcases (slO_own ho).slice with ⟨A, cap, rfl, _⟩
  exact ⟨A, cap, rfl, hb⟩

theorem compacts_any (w : World) (v1 v2 : Value) (l1 l2 : List Opn) (up : Int) (s1 : SlO w v1 l1) (s2 : SlO w v2 l2) (hT : Tabs w) :
    Calls Tryd.prog 3 #[v1, v2, .int .i64 up] w (Ret (.bool true) w) := by
  have hf1 := fun W (hW : Below w.heap.size w W) => few_any W v1 l1 (s1.below hW (Nat.le_refl _))
  have hf2 := fun W (hW : Below w.heap.size w W) => few_any W v2 l2 (s2.below hW (Nat.le_refl _))
  have haw := fun W (hW : Below w.heap.size w W) => awake_any W (Tabs.below hT hW (Nat.le_refl _))
  obtain ⟨A1, cap1, rfl, hm1, hc1⟩ := s1.slice
  obtain ⟨A2, cap2, rfl, hm2, hc2⟩ := s2.slice
  have HC1 := Lib.hid hc1
  have HC2 := Lib.hid hc2
  have HT := Lib.hid hT
  have HAW := Lib.hid haw
  have HNEW := Lib.hid new_any
  obtain ⟨b1, hb1⟩ : ∃ b1, fewB l1 = b1 := ⟨_, rfl⟩
  obtain ⟨b2, hb2⟩ : ∃ b2, fewB l2 = b2 := ⟨_, rfl⟩
  obtain ⟨n1, hn1⟩ : ∃ n1, l1.length = n1 := ⟨_, rfl⟩
  obtain ⟨n2, hn2⟩ : ∃ n2, l2.length = n2 := ⟨_, rfl⟩
  rw [hb1, hn1] at hf1
  rw [hb2, hn2] at hf2
  rw [hn1, hn2]
  have HF1 := Lib.hid hf1
  have HF2 := Lib.hid hf2
  have HB1 := Lib.hid hb1
  have HB2 := Lib.hid hb2
  have HN1 := Lib.hid hn1
  have HN2 := Lib.hid hn2
  clear s1 s2 hc1 hc2 hT haw hf1 hf2 hb1 hb2 hm1 hm2 hn1 hn2
  go_enter Tryd.func3, Tryd.ntmps3
  go_wp2_with fail
  refine (HNEW.out _).mono ?_
  rintro e wa ⟨ta, Fa, rfl, hta, hFa, hfa⟩
  have HTA := Lib.hid (And.intro hta (And.intro hFa hfa))
  clear hta hFa hfa
  go_wp2_with fail
  refine (HNEW.out _).mono ?_
  rintro e wb ⟨tb, Fb, rfl, htb, hFb, hfb⟩
  have hTwo : Two w wb ta tb Fa Fb Tr.new Tr.new := by
    obtain ⟨hta, hFa, hfa⟩ := HTA.out
    exact ⟨hta.below hfb.below hta.lt, htb, hFa, fun x hx => by have := hFb x hx; have := hfa.size; omega, fun x h1 h2 => by have := hFb x h2; have := hta.lt x h1; omega, below_up hfa.below hfb.below hfa.size⟩
  have HTW := Lib.hid hTwo
  have hbw := hTwo.low
  have HBW := Lib.hid hbw
  clear HTA htb hFb hfb hTwo hbw
  cases b1
  · go_wp2_with fail
    refine (HF1.out _ HBW.out).mono ?_
    rintro e wc ⟨rfl, hbc⟩
    have hbw2 := below_up HBW.out hbc HBW.out.size
    have HBW2 := Lib.hid hbw2
    clear hbw2 hbc
    go_wp2_with fail
    refine (HAW.out _ HBW2.out).mono ?_
    rintro e wd ⟨rfl, hbd⟩
    have hbw3 := below_up HBW2.out hbd HBW2.out.size
    have HBW3 := Lib.hid hbw3
    clear hbw3 hbd
    go_wp2
    go_ret
    exact ⟨rfl, HBW3.out⟩
  go_wp2_with fail
  refine (HF1.out _ HBW.out).mono ?_
  rintro e wc ⟨rfl, hbc⟩
  have htw := HTW.out.below hbc
  clear HTW HBW hbc
  have HTW := Lib.hid htw
  have HBW := Lib.hid htw.low
  clear htw
  cases b2
  · go_wp2_with fail
    refine (HF2.out _ HBW.out).mono ?_
    rintro e wd ⟨rfl, hbc⟩
    have hbw2 := below_up HBW.out hbc HBW.out.size
    have HBW2 := Lib.hid hbw2
    clear hbw2 hbc
    go_wp2_with fail
    refine (HAW.out _ HBW2.out).mono ?_
    rintro e we ⟨rfl, hbd⟩
    have hbw3 := below_up HBW2.out hbd HBW2.out.size
    have HBW3 := Lib.hid hbw3
    clear hbw3 hbd
    go_wp2
    go_ret
    exact ⟨rfl, HBW3.out⟩
  go_wp2_with fail
  refine (HF2.out _ HBW.out).mono ?_
  rintro e wd ⟨rfl, hbc⟩
  have htw := HTW.out.below hbc
  clear HTW HBW hbc
  have HTW := Lib.hid htw
  clear htw
  have hl1 : n1 ≤ 30 := by
    have h1 := HB1.out
    have h2 := HN1.out
    simp only [fewB, Bool.and_eq_true, decide_eq_true_eq] at h1
    omega
  have hl2 : n2 ≤ 30 := by
    have h1 := HB2.out
    have h2 := HN2.out
    simp only [fewB, Bool.and_eq_true, decide_eq_true_eq] at h1
    omega
  go_wp2
  go_loopg [9] (n1 + 1) (fun gk v9 wr => ∃ (j : Nat) (T : Tr) (Fa Fb : List Nat), v9 = .int .i64 j ∧ j ≤ n1 ∧ n1 < j + gk ∧ Two w wr ta tb Fa Fb T T ∧ Inv T ∧ T.fixed = [] ∧ T.base = ⟨0, 0⟩ ∧ T.ops.length ≤ j)
  case atStart => exact ⟨0, Tr.new, Fa, Fb, rfl, by omega, by omega, HTW.out, inv_new, rfl, rfl, Nat.le_refl _⟩
  case round =>
    clear HTW
    obtain ⟨j, T, Fa', Fb', rfl, hj, hm, htw, hI, hfx, hbs, hln⟩ := hrel
    have HTW := Lib.hid htw
    have HI := Lib.hid (And.intro hI (And.intro hfx (And.intro hbs hln)))
    clear htw hI hfx hbs hln
    by_cases hjn : j < n1
    · have hjl : j < l1.length := by have := HN1.out; omega
      obtain ⟨a, rfl, hcap, hcell, hlt⟩ := HC1.out j hjl
      have hcell' := hcell.below HTW.out.low (by rw [add_block]; exact hlt)
      obtain ⟨o, ho⟩ : ∃ o, l1[j] = o := ⟨_, rfl⟩
      have hsz : o.nm.size ≤ 4611686018427387904 := few_size HB1.out (ho ▸ List.getElem_mem hjl)
      rw [ho] at hcell'
      clear ho
      obtain ⟨xk, ⟨xa, xb⟩, ⟨xc, xd⟩, ⟨xe, xf⟩, xn, xv⟩ := o
      have e0 : wr.cell? (a.add (j * 9)) = some (.int .i64 xk) := hcell'.get 0 rfl
      have e1 : wr.cell? ⟨(a.add (j * 9)).block, (a.add (j * 9)).off + 1, none⟩ = some (.int .i64 xa) := hcell'.get 1 rfl
      have e2 : wr.cell? ⟨(a.add (j * 9)).block, (a.add (j * 9)).off + 2, none⟩ = some (.int .i64 xb) := hcell'.get 2 rfl
      have e3 : wr.cell? ⟨(a.add (j * 9)).block, (a.add (j * 9)).off + 3, none⟩ = some (.int .i64 xc) := hcell'.get 3 rfl
      have e4 : wr.cell? ⟨(a.add (j * 9)).block, (a.add (j * 9)).off + 4, none⟩ = some (.int .i64 xd) := hcell'.get 4 rfl
      have e5 : wr.cell? ⟨(a.add (j * 9)).block, (a.add (j * 9)).off + 5, none⟩ = some (.int .i64 xe) := hcell'.get 5 rfl
      have e6 : wr.cell? ⟨(a.add (j * 9)).block, (a.add (j * 9)).off + 6, none⟩ = some (.int .i64 xf) := hcell'.get 6 rfl
      have e7 : wr.cell? ⟨(a.add (j * 9)).block, (a.add (j * 9)).off + 7, none⟩ = some (.string xn) := hcell'.get 7 rfl
      have e8 : wr.cell? ⟨(a.add (j * 9)).block, (a.add (j * 9)).off + 8, none⟩ = some (.string xv) := hcell'.get 8 rfl
      have HSZ := Lib.hid hsz
      have HLT := Lib.hid hlt
      have HCE := Lib.hid hcell'
      have h4 : (0 : Int) ≤ j := by omega
      have h5 : (j : Int).toNat = j := by omega
      have h6 : (j : Int) < n1 := by omega
      have HJ := Lib.hid (And.intro hjn (And.intro hj hm))
      clear hcell hcell' hcap hlt hsz hjl
      by_cases t1 : xa ≤ 1000
      · by_cases t2 : xc ≤ 1000
        · by_cases t3 : xe ≤ 1000
          · go_wp2_with fail
            refine (HTW.out.apply_a HT.out HI.out.1 xk xa xb xc xd xe xf xn xv HSZ.out).mono ?_
            rintro e w5 ⟨rfl, ⟨F2, ht5⟩, hf5⟩
            have hcell5 := HCE.out.fr hf5 (by rw [add_block]; have := HTW.out.low.size; have := HLT.out; omega) (by rw [add_block]; intro hm; have := HTW.out.la _ hm; have := HLT.out; omega)
            have d0 : w5.cell? (a.add (j * 9)) = some (.int .i64 xk) := hcell5.get 0 rfl
            have d1 : w5.cell? ⟨(a.add (j * 9)).block, (a.add (j * 9)).off + 1, none⟩ = some (.int .i64 xa) := hcell5.get 1 rfl
            have d2 : w5.cell? ⟨(a.add (j * 9)).block, (a.add (j * 9)).off + 2, none⟩ = some (.int .i64 xb) := hcell5.get 2 rfl
            have d3 : w5.cell? ⟨(a.add (j * 9)).block, (a.add (j * 9)).off + 3, none⟩ = some (.int .i64 xc) := hcell5.get 3 rfl
            have d4 : w5.cell? ⟨(a.add (j * 9)).block, (a.add (j * 9)).off + 4, none⟩ = some (.int .i64 xd) := hcell5.get 4 rfl
            have d5 : w5.cell? ⟨(a.add (j * 9)).block, (a.add (j * 9)).off + 5, none⟩ = some (.int .i64 xe) := hcell5.get 5 rfl
            have d6 : w5.cell? ⟨(a.add (j * 9)).block, (a.add (j * 9)).off + 6, none⟩ = some (.int .i64 xf) := hcell5.get 6 rfl
            have d7 : w5.cell? ⟨(a.add (j * 9)).block, (a.add (j * 9)).off + 7, none⟩ = some (.string xn) := hcell5.get 7 rfl
            have d8 : w5.cell? ⟨(a.add (j * 9)).block, (a.add (j * 9)).off + 8, none⟩ = some (.string xv) := hcell5.get 8 rfl
            have HT5 := Lib.hid ht5
            clear hcell5 ht5 hf5 e0 e1 e2 e3 e4 e5 e6 e7 e8
            go_wp2_with fail
            refine (HT5.out.apply_b HT.out HI.out.1 xk xa xb xc xd xe xf xn xv HSZ.out).mono ?_
            rintro e w6 ⟨rfl, ⟨F3, ht6⟩, hf6⟩
            have HT6 := Lib.hid ht6
            clear ht6 hf6 d0 d1 d2 d3 d4 d5 d6 d7 d8
            go_wp2
            go_roundg (n1 - j)
            case measure => have := HJ.out; omega
            case rel =>
              have hj3 := HJ.out
              exact ⟨j + 1, _, F2, F3, by go_num, by omega, by omega, HT6.out, inv_apply HI.out.1 _, by rw [apply_fixed]; exact HI.out.2.1, by rw [apply_base]; exact HI.out.2.2.1, by have := apply_len T ⟨xk, ⟨xa, xb⟩, ⟨xc, xd⟩, ⟨xe, xf⟩, xn, xv⟩; have := HI.out.2.2.2; omega⟩
          · go_wp2
            go_roundg (n1 - j)
            case measure => have := HJ.out; omega
            case rel => exact ⟨j + 1, T, Fa', Fb', by go_num, by have := HJ.out; omega, by have := HJ.out; omega, HTW.out, HI.out.1, HI.out.2.1, HI.out.2.2.1, by have := HI.out.2.2.2; omega⟩
        · go_wp2
          go_roundg (n1 - j)
          case measure => have := HJ.out; omega
          case rel => exact ⟨j + 1, T, Fa', Fb', by go_num, by have := HJ.out; omega, by have := HJ.out; omega, HTW.out, HI.out.1, HI.out.2.1, HI.out.2.2.1, by have := HI.out.2.2.2; omega⟩
      · go_wp2
        go_roundg (n1 - j)
        case measure => have := HJ.out; omega
        case rel => exact ⟨j + 1, T, Fa', Fb', by go_num, by have := HJ.out; omega, by have := HJ.out; omega, HTW.out, HI.out.1, HI.out.2.1, HI.out.2.2.1, by have := HI.out.2.2.2; omega⟩
    · obtain rfl : j = n1 := by omega
      go_wp2_with fail
      have hs := upto_low up
      generalize wrap64 (1 + (bits BinOp.and IntKind.i64 up 65535).tmod 1000) = s at hs ⊢
      refine (at11_any s 6 wr).mono ?_
      rintro e w2 ⟨rfl, hb2⟩
      have htw2 := HTW.out.below hb2
      have HTW2 := Lib.hid htw2
      have HS := Lib.hid hs
      clear htw2 hb2 hs HTW
      go_wp2_with fail
      refine (compact_any _ tb Fb' T s 6 HTW2.out.b HI.out.1).mono ?_
      rintro e w3 ⟨rfl, ht3, hf3⟩
      have htw3 := HTW2.out.right ht3 hf3 (fun x hx => Or.inl hx)
      have HTW := Lib.hid htw3
      clear htw3 ht3 hf3 HTW2 hjn
      go_wp2
      go_loopg [10] (n2 + 1) (fun gk v10 wr => ∃ (j : Nat) (A B : Tr) (P Q : List Opn) (Fa Fb : List Nat), v10 = .int .i64 j ∧ j ≤ n2 ∧ n2 < j + gk ∧ Two w wr ta tb Fa Fb A B ∧ Inv A ∧ Inv B ∧ Beh A B P Q ∧ A.ops.length ≤ 30 + j)
      case atStart =>
        obtain ⟨P, Q, hbeh⟩ := beh_begin HI.out.2.1 (by rw [HI.out.2.2.1]; show (0 : Int) ≤ _; omega) ⟨s, 6⟩ HS.out.2 (by have := HS.out; simp [St.may, mayP]; omega)
        exact ⟨0, T, _, P, Q, Fa', Fb', rfl, by omega, by omega, HTW.out, HI.out.1, inv_compact HI.out.1 _, hbeh, by have := HI.out.2.2.2; omega⟩
      case round =>
        clear HTW HI HS hj hm
        obtain ⟨i, A, B, P, Q, Fa2, Fb2, rfl, hi, hm, htw, hIA, hIB, hbeh, hln⟩ := hrel
        have HTW := Lib.hid htw
        have HI := Lib.hid (And.intro hIA (And.intro hIB (And.intro hbeh hln)))
        clear htw hIA hIB hbeh hln
        by_cases hin : i < n2
        · have hil : i < l2.length := by have := HN2.out; omega
          obtain ⟨a, rfl, hcap, hcell, hlt⟩ := HC2.out i hil
          have hcell' := hcell.below HTW.out.low (by rw [add_block]; exact hlt)
          obtain ⟨o, ho⟩ : ∃ o, l2[i] = o := ⟨_, rfl⟩
          have hsz : o.nm.size ≤ 4611686018427387904 := few_size HB2.out (ho ▸ List.getElem_mem hil)
          rw [ho] at hcell'
          clear ho
          obtain ⟨xk, ⟨xa, xb⟩, ⟨xc, xd⟩, ⟨xe, xf⟩, xn, xv⟩ := o
          have e0 : wr.cell? (a.add (i * 9)) = some (.int .i64 xk) := hcell'.get 0 rfl
          have e1 : wr.cell? ⟨(a.add (i * 9)).block, (a.add (i * 9)).off + 1, none⟩ = some (.int .i64 xa) := hcell'.get 1 rfl
          have e2 : wr.cell? ⟨(a.add (i * 9)).block, (a.add (i * 9)).off + 2, none⟩ = some (.int .i64 xb) := hcell'.get 2 rfl
          have e3 : wr.cell? ⟨(a.add (i * 9)).block, (a.add (i * 9)).off + 3, none⟩ = some (.int .i64 xc) := hcell'.get 3 rfl
          have e4 : wr.cell? ⟨(a.add (i * 9)).block, (a.add (i * 9)).off + 4, none⟩ = some (.int .i64 xd) := hcell'.get 4 rfl
          have e5 : wr.cell? ⟨(a.add (i * 9)).block, (a.add (i * 9)).off + 5, none⟩ = some (.int .i64 xe) := hcell'.get 5 rfl
          have e6 : wr.cell? ⟨(a.add (i * 9)).block, (a.add (i * 9)).off + 6, none⟩ = some (.int .i64 xf) := hcell'.get 6 rfl
          have e7 : wr.cell? ⟨(a.add (i * 9)).block, (a.add (i * 9)).off + 7, none⟩ = some (.string xn) := hcell'.get 7 rfl
          have e8 : wr.cell? ⟨(a.add (i * 9)).block, (a.add (i * 9)).off + 8, none⟩ = some (.string xv) := hcell'.get 8 rfl
          have HSZ := Lib.hid hsz
          have h4 : (0 : Int) ≤ i := by omega
          have h5 : (i : Int).toNat = i := by omega
          have h6 : (i : Int) < n2 := by omega
          have HJ := Lib.hid (And.intro hin (And.intro hi hm))
          clear hcell hcell' hcap hlt hsz hil hin
          by_cases t1 : xa ≤ 1048576
          · by_cases t2 : 1 ≤ xa
            · by_cases t3 : xk = 1
              · subst t3
                go_wp2_with fail
                obtain ⟨hr, Q', hbq⟩ := beh_step HI.out.2.2.1 ⟨1, ⟨xa + 1000, xb⟩, ⟨(xa + 1000), xb⟩, ⟨xe, xf⟩, xn, xv⟩ (by show 1000 < xa + 1000; omega) (by have := HI.out.2.2.2; omega)
                have hia := inv_apply HI.out.1 ⟨1, ⟨xa + 1000, xb⟩, ⟨(xa + 1000), xb⟩, ⟨xe, xf⟩, xn, xv⟩
                have hib := inv_apply HI.out.2.1 ⟨1, ⟨xa + 1000, xb⟩, ⟨(xa + 1000), xb⟩, ⟨xe, xf⟩, xn, xv⟩
                have hla := apply_len A ⟨1, ⟨xa + 1000, xb⟩, ⟨(xa + 1000), xb⟩, ⟨xe, xf⟩, xn, xv⟩
                have hca : ∀ W, Two w W ta tb Fa2 Fb2 A B → Calls Tryd.prog 13 #[.pointer (some ⟨ta, 0, none⟩), .agg #[.int .i64 1, .int .i64 (xa + 1000), .int .i64 xb, .int .i64 (xa + 1000), .int .i64 xb, .int .i64 xe, .int .i64 xf, .string xn, .string xv]] W fun e w' => e = .returned (.int .i64 (applyN A ⟨1, ⟨xa + 1000, xb⟩, ⟨(xa + 1000), xb⟩, ⟨xe, xf⟩, xn, xv⟩).2) ∧ (∃ F2, Two w w' ta tb F2 Fb2 (applyN A ⟨1, ⟨xa + 1000, xb⟩, ⟨(xa + 1000), xb⟩, ⟨xe, xf⟩, xn, xv⟩).1 B) ∧ Fr Fa2 W w' := fun W h => h.apply_a HT.out HI.out.1 _ _ _ _ _ _ _ _ _ HSZ.out
                have hcb : ∀ A' W F2, Two w W ta tb F2 Fb2 A' B → Calls Tryd.prog 13 #[.pointer (some ⟨tb, 0, none⟩), .agg #[.int .i64 1, .int .i64 (xa + 1000), .int .i64 xb, .int .i64 (xa + 1000), .int .i64 xb, .int .i64 xe, .int .i64 xf, .string xn, .string xv]] W fun e w' => e = .returned (.int .i64 (applyN B ⟨1, ⟨xa + 1000, xb⟩, ⟨(xa + 1000), xb⟩, ⟨xe, xf⟩, xn, xv⟩).2) ∧ (∃ F3, Two w w' ta tb F2 F3 A' (applyN B ⟨1, ⟨xa + 1000, xb⟩, ⟨(xa + 1000), xb⟩, ⟨xe, xf⟩, xn, xv⟩).1) ∧ Fr Fb2 W w' := fun A' W F2 h => h.apply_b HT.out HI.out.2.1 _ _ _ _ _ _ _ _ _ HSZ.out
                rw [← hr] at hcb
                generalize (applyN A ⟨1, ⟨xa + 1000, xb⟩, ⟨(xa + 1000), xb⟩, ⟨xe, xf⟩, xn, xv⟩).2 = r at hca hcb
                generalize (applyN A ⟨1, ⟨xa + 1000, xb⟩, ⟨(xa + 1000), xb⟩, ⟨xe, xf⟩, xn, xv⟩).1 = A' at hca hbq hia hla
                generalize (applyN B ⟨1, ⟨xa + 1000, xb⟩, ⟨(xa + 1000), xb⟩, ⟨xe, xf⟩, xn, xv⟩).1 = B' at hcb hbq hib
                have hBk := Blk.at_ wr [.int .i64 1, .int .i64 (xa + 1000), .int .i64 xb, .int .i64 (xa + 1000), .int .i64 xb, .int .i64 xe, .int .i64 xf, .string xn, .string xv] 30 rfl
                have hTw := HTW.out.below ((Below.refl wr.heap.size wr).alloc (Nat.le_refl _) (.cells #[.int .i64 1, .int .i64 (xa + 1000), .int .i64 xb, .int .i64 (xa + 1000), .int .i64 xb, .int .i64 xe, .int .i64 xf, .string xn, .string xv] 30))
                have hno : wr.heap.size ∉ Fa2 ++ Fb2 := fun h => by
                  rcases List.mem_append.1 h with h | h
                  · have := HTW.out.a.lt _ h; omega
                  · have := HTW.out.b.lt _ h; omega
                generalize wr.alloc (.cells #[.int .i64 1, .int .i64 (xa + 1000), .int .i64 xb, .int .i64 (xa + 1000), .int .i64 xb, .int .i64 xe, .int .i64 xf, .string xn, .string xv] 30) = W1 at *
                have K : ∀ w', Fr (Fa2 ++ Fb2) W1 w' → (w'.cell? ⟨wr.heap.size, 0, none⟩ = some (.int .i64 1) ∧ w'.cell? ⟨wr.heap.size, 1, none⟩ = some (.int .i64 (xa + 1000)) ∧ w'.cell? ⟨wr.heap.size, 2, none⟩ = some (.int .i64 xb) ∧ w'.cell? ⟨wr.heap.size, 3, none⟩ = some (.int .i64 (xa + 1000)) ∧ w'.cell? ⟨wr.heap.size, 4, none⟩ = some (.int .i64 xb) ∧ w'.cell? ⟨wr.heap.size, 5, none⟩ = some (.int .i64 xe) ∧ w'.cell? ⟨wr.heap.size, 6, none⟩ = some (.int .i64 xf) ∧ w'.cell? ⟨wr.heap.size, 7, none⟩ = some (.string xn) ∧ w'.cell? ⟨wr.heap.size, 8, none⟩ = some (.string xv) ∧ Fr (Fa2 ++ Fb2) W1 w') := fun w' hw => by
                  have q := hBk.fr hw hno
                  exact ⟨q.cell 0 rfl, q.cell 1 rfl, q.cell 2 rfl, q.cell 3 rfl, q.cell 4 rfl, q.cell 5 rfl, q.cell 6 rfl, q.cell 7 rfl, q.cell 8 rfl, hw⟩
                have hk0 : Fr (Fa2 ++ Fb2) W1 W1.drew := (Fr.refl _ _).drew
                have HTC := Lib.hid (hTw.below ((Below.refl _ _).drew))
                have HCA := Lib.hid hca
                have HCB := Lib.hid (hcb A')
                have HE := Lib.hid (And.intro hbq (And.intro hia (And.intro hib hla)))
                clear hca hcb hTw hBk hno hr hbq hia hib hla e0 e1 e2 e3 e4 e5 e6 e7 e8 HTW
                go_region_held3 (fun w' => w'.cell? ⟨wr.heap.size, 0, none⟩ = some (.int .i64 1) ∧ w'.cell? ⟨wr.heap.size, 1, none⟩ = some (.int .i64 (xa + 1000)) ∧ w'.cell? ⟨wr.heap.size, 2, none⟩ = some (.int .i64 xb) ∧ w'.cell? ⟨wr.heap.size, 3, none⟩ = some (.int .i64 (xa + 1000)) ∧ w'.cell? ⟨wr.heap.size, 4, none⟩ = some (.int .i64 xb) ∧ w'.cell? ⟨wr.heap.size, 5, none⟩ = some (.int .i64 xe) ∧ w'.cell? ⟨wr.heap.size, 6, none⟩ = some (.int .i64 xf) ∧ w'.cell? ⟨wr.heap.size, 7, none⟩ = some (.string xn) ∧ w'.cell? ⟨wr.heap.size, 8, none⟩ = some (.string xv) ∧ Fr (Fa2 ++ Fb2) W1 w') (exact K _ hk0) (first
                  | (go_at_call 13; (with_reducible refine (HCA.out _ HTC.out).mono ?_); rintro e w5 ⟨rfl, ⟨F2, ht5⟩, hf5⟩; replace hk0 := hk0.trans (hf5.mono (fun x hx => Or.inl (List.mem_append_left _ hx))); have HTD := Lib.hid ht5; clear ht5)
                  | (go_at_call 13; (with_reducible refine (HCB.out _ _ HTD.out).mono ?_); rintro e w6 ⟨rfl, ⟨F3, ht6⟩, hf6⟩; replace hk0 := hk0.trans (hf6.mono (fun x hx => Or.inl (List.mem_append_right _ hx))); have HTE := Lib.hid ht6; clear ht6))
                all_goals
                  go_wp2
                  go_roundg (n2 - i)
                  case measure => have := HJ.out; omega
                  case rel => exact ⟨i + 1, A', B', P, Q', F2, F3, by go_num, by have := HJ.out; omega, by have := HJ.out; omega, HTE.out, HE.out.2.1, HE.out.2.2.1, HE.out.1, by have := HE.out.2.2.2; have := HI.out.2.2.2; omega⟩
              · go_wp2_with fail
                obtain ⟨hr, Q', hbq⟩ := beh_step HI.out.2.2.1 ⟨xk, ⟨xa + 1000, xb⟩, ⟨xc, xd⟩, ⟨xe, xf⟩, xn, xv⟩ (by show 1000 < xa + 1000; omega) (by have := HI.out.2.2.2; omega)
                have hia := inv_apply HI.out.1 ⟨xk, ⟨xa + 1000, xb⟩, ⟨xc, xd⟩, ⟨xe, xf⟩, xn, xv⟩
                have hib := inv_apply HI.out.2.1 ⟨xk, ⟨xa + 1000, xb⟩, ⟨xc, xd⟩, ⟨xe, xf⟩, xn, xv⟩
                have hla := apply_len A ⟨xk, ⟨xa + 1000, xb⟩, ⟨xc, xd⟩, ⟨xe, xf⟩, xn, xv⟩
                have hca : ∀ W, Two w W ta tb Fa2 Fb2 A B → Calls Tryd.prog 13 #[.pointer (some ⟨ta, 0, none⟩), .agg #[.int .i64 xk, .int .i64 (xa + 1000), .int .i64 xb, .int .i64 xc, .int .i64 xd, .int .i64 xe, .int .i64 xf, .string xn, .string xv]] W fun e w' => e = .returned (.int .i64 (applyN A ⟨xk, ⟨xa + 1000, xb⟩, ⟨xc, xd⟩, ⟨xe, xf⟩, xn, xv⟩).2) ∧ (∃ F2, Two w w' ta tb F2 Fb2 (applyN A ⟨xk, ⟨xa + 1000, xb⟩, ⟨xc, xd⟩, ⟨xe, xf⟩, xn, xv⟩).1 B) ∧ Fr Fa2 W w' := fun W h => h.apply_a HT.out HI.out.1 _ _ _ _ _ _ _ _ _ HSZ.out
                have hcb : ∀ A' W F2, Two w W ta tb F2 Fb2 A' B → Calls Tryd.prog 13 #[.pointer (some ⟨tb, 0, none⟩), .agg #[.int .i64 xk, .int .i64 (xa + 1000), .int .i64 xb, .int .i64 xc, .int .i64 xd, .int .i64 xe, .int .i64 xf, .string xn, .string xv]] W fun e w' => e = .returned (.int .i64 (applyN B ⟨xk, ⟨xa + 1000, xb⟩, ⟨xc, xd⟩, ⟨xe, xf⟩, xn, xv⟩).2) ∧ (∃ F3, Two w w' ta tb F2 F3 A' (applyN B ⟨xk, ⟨xa + 1000, xb⟩, ⟨xc, xd⟩, ⟨xe, xf⟩, xn, xv⟩).1) ∧ Fr Fb2 W w' := fun A' W F2 h => h.apply_b HT.out HI.out.2.1 _ _ _ _ _ _ _ _ _ HSZ.out
                rw [← hr] at hcb
                generalize (applyN A ⟨xk, ⟨xa + 1000, xb⟩, ⟨xc, xd⟩, ⟨xe, xf⟩, xn, xv⟩).2 = r at hca hcb
                generalize (applyN A ⟨xk, ⟨xa + 1000, xb⟩, ⟨xc, xd⟩, ⟨xe, xf⟩, xn, xv⟩).1 = A' at hca hbq hia hla
                generalize (applyN B ⟨xk, ⟨xa + 1000, xb⟩, ⟨xc, xd⟩, ⟨xe, xf⟩, xn, xv⟩).1 = B' at hcb hbq hib
                have hBk := Blk.at_ wr [.int .i64 xk, .int .i64 (xa + 1000), .int .i64 xb, .int .i64 xc, .int .i64 xd, .int .i64 xe, .int .i64 xf, .string xn, .string xv] 30 rfl
                have hTw := HTW.out.below ((Below.refl wr.heap.size wr).alloc (Nat.le_refl _) (.cells #[.int .i64 xk, .int .i64 (xa + 1000), .int .i64 xb, .int .i64 xc, .int .i64 xd, .int .i64 xe, .int .i64 xf, .string xn, .string xv] 30))
                have hno : wr.heap.size ∉ Fa2 ++ Fb2 := fun h => by
                  rcases List.mem_append.1 h with h | h
                  · have := HTW.out.a.lt _ h; omega
                  · have := HTW.out.b.lt _ h; omega
                generalize wr.alloc (.cells #[.int .i64 xk, .int .i64 (xa + 1000), .int .i64 xb, .int .i64 xc, .int .i64 xd, .int .i64 xe, .int .i64 xf, .string xn, .string xv] 30) = W1 at *
                have K : ∀ w', Fr (Fa2 ++ Fb2) W1 w' → (w'.cell? ⟨wr.heap.size, 0, none⟩ = some (.int .i64 xk) ∧ w'.cell? ⟨wr.heap.size, 1, none⟩ = some (.int .i64 (xa + 1000)) ∧ w'.cell? ⟨wr.heap.size, 2, none⟩ = some (.int .i64 xb) ∧ w'.cell? ⟨wr.heap.size, 3, none⟩ = some (.int .i64 xc) ∧ w'.cell? ⟨wr.heap.size, 4, none⟩ = some (.int .i64 xd) ∧ w'.cell? ⟨wr.heap.size, 5, none⟩ = some (.int .i64 xe) ∧ w'.cell? ⟨wr.heap.size, 6, none⟩ = some (.int .i64 xf) ∧ w'.cell? ⟨wr.heap.size, 7, none⟩ = some (.string xn) ∧ w'.cell? ⟨wr.heap.size, 8, none⟩ = some (.string xv) ∧ Fr (Fa2 ++ Fb2) W1 w') := fun w' hw => by
                  have q := hBk.fr hw hno
                  exact ⟨q.cell 0 rfl, q.cell 1 rfl, q.cell 2 rfl, q.cell 3 rfl, q.cell 4 rfl, q.cell 5 rfl, q.cell 6 rfl, q.cell 7 rfl, q.cell 8 rfl, hw⟩
                have hk0 : Fr (Fa2 ++ Fb2) W1 W1.drew := (Fr.refl _ _).drew
                have HTC := Lib.hid (hTw.below ((Below.refl _ _).drew))
                have HCA := Lib.hid hca
                have HCB := Lib.hid (hcb A')
                have HE := Lib.hid (And.intro hbq (And.intro hia (And.intro hib hla)))
                clear hca hcb hTw hBk hno hr hbq hia hib hla e0 e1 e2 e3 e4 e5 e6 e7 e8 HTW
                go_region_held3 (fun w' => w'.cell? ⟨wr.heap.size, 0, none⟩ = some (.int .i64 xk) ∧ w'.cell? ⟨wr.heap.size, 1, none⟩ = some (.int .i64 (xa + 1000)) ∧ w'.cell? ⟨wr.heap.size, 2, none⟩ = some (.int .i64 xb) ∧ w'.cell? ⟨wr.heap.size, 3, none⟩ = some (.int .i64 xc) ∧ w'.cell? ⟨wr.heap.size, 4, none⟩ = some (.int .i64 xd) ∧ w'.cell? ⟨wr.heap.size, 5, none⟩ = some (.int .i64 xe) ∧ w'.cell? ⟨wr.heap.size, 6, none⟩ = some (.int .i64 xf) ∧ w'.cell? ⟨wr.heap.size, 7, none⟩ = some (.string xn) ∧ w'.cell? ⟨wr.heap.size, 8, none⟩ = some (.string xv) ∧ Fr (Fa2 ++ Fb2) W1 w') (exact K _ hk0) (first
                  | (go_at_call 13; (with_reducible refine (HCA.out _ HTC.out).mono ?_); rintro e w5 ⟨rfl, ⟨F2, ht5⟩, hf5⟩; replace hk0 := hk0.trans (hf5.mono (fun x hx => Or.inl (List.mem_append_left _ hx))); have HTD := Lib.hid ht5; clear ht5)
                  | (go_at_call 13; (with_reducible refine (HCB.out _ _ HTD.out).mono ?_); rintro e w6 ⟨rfl, ⟨F3, ht6⟩, hf6⟩; replace hk0 := hk0.trans (hf6.mono (fun x hx => Or.inl (List.mem_append_right _ hx))); have HTE := Lib.hid ht6; clear ht6))
                all_goals
                  go_wp2
                  go_roundg (n2 - i)
                  case measure => have := HJ.out; omega
                  case rel => exact ⟨i + 1, A', B', P, Q', F2, F3, by go_num, by have := HJ.out; omega, by have := HJ.out; omega, HTE.out, HE.out.2.1, HE.out.2.2.1, HE.out.1, by have := HE.out.2.2.2; have := HI.out.2.2.2; omega⟩
            · go_wp2
              go_roundg (n2 - i)
              case measure => have := HJ.out; omega
              case rel => exact ⟨i + 1, A, B, P, Q, Fa2, Fb2, by go_num, by have := HJ.out; omega, by have := HJ.out; omega, HTW.out.below ((Below.refl _ _).alloc (Nat.le_refl _) _), HI.out.1, HI.out.2.1, HI.out.2.2.1, by have := HI.out.2.2.2; omega⟩
          · go_wp2
            go_roundg (n2 - i)
            case measure => have := HJ.out; omega
            case rel => exact ⟨i + 1, A, B, P, Q, Fa2, Fb2, by go_num, by have := HJ.out; omega, by have := HJ.out; omega, HTW.out.below ((Below.refl _ _).alloc (Nat.le_refl _) _), HI.out.1, HI.out.2.1, HI.out.2.2.1, by have := HI.out.2.2.2; omega⟩
        · obtain rfl : i = n2 := by omega
          go_wp2_with fail
          have hsm : A.now = B.now := HI.out.2.2.1.now HI.out.1 HI.out.2.1
          have hle := HI.out.2.2.1.len
          refine (nodes_any wr ta Fa2 A HTW.out.a (inv_now HI.out.1)).mono ?_
          rintro e w5 hl5
          obtain ⟨v5, rfl, hs5, hb5⟩ := made_list hl5
          have htw5 := HTW.out.below hb5
          have HTW5 := Lib.hid htw5
          have HS5 := Lib.hid hs5
          clear hl5 hs5 hb5 htw5 HTW
          go_wp2_with fail
          refine (nodes_any w5 tb Fb2 B HTW5.out.b (inv_now HI.out.2.1)).mono ?_
          rintro e w6 hl6
          obtain ⟨v6, rfl, hs6, hb6⟩ := made_list hl6
          rw [← hsm] at hs6
          have htw6 := HTW5.out.below hb6
          have HTW6 := Lib.hid htw6
          have HS6 := Lib.hid (And.intro (HS5.out.below hb6 (Nat.le_refl _)) hs6)
          have HLE := Lib.hid hle
          clear hl6 hs6 hb6 htw6 HTW5 HS5 hsm hle
          go_wp2_with fail
          refine (same_any w6 v5 v6 A.now HS6.out.1 HS6.out.2).mono ?_
          rintro e w7 ⟨rfl, hb7⟩
          have htw7 := HTW6.out.below hb7
          have HTW7 := Lib.hid htw7
          clear hb7 htw7 HTW6 HS6
          go_wp2_with fail
          refine (ops_any w7 ta Fa2 A HTW7.out.a (by have := HI.out.1.few; omega)).mono ?_
          rintro e w8 hl8
          obtain ⟨Ax, capx, rfl, hb8⟩ := made_ops hl8
          have htw8 := HTW7.out.below hb8
          have HTW8 := Lib.hid htw8
          clear hl8 hb8 htw8 HTW7
          go_wp2_with fail
          refine (ops_any w8 tb Fb2 B HTW8.out.b (by have := HI.out.2.1.few; omega)).mono ?_
          rintro e w9 hl9
          obtain ⟨Ay, capy, rfl, hb9⟩ := made_ops hl9
          have htw9 := HTW8.out.below hb9
          have HTW9 := Lib.hid htw9
          clear hl9 hb9 htw9 HTW8
          have hq : B.ops.length ≤ A.ops.length := HLE.out
          have hq2 : (B.ops.length : Int) ≤ (A.ops.length : Int) := by omega
          go_wp2_with fail
          refine (HAW.out _ HTW9.out.low).mono ?_
          rintro e w10 ⟨rfl, hb10⟩
          have hlast := below_up HTW9.out.low hb10 HTW9.out.low.size
          have HLAST := Lib.hid hlast
          clear hb10 hlast
          go_wp2
          go_ret
          exact ⟨rfl, HLAST.out⟩
end Go.Proofs.YteghkajegdcbjaaDoor
