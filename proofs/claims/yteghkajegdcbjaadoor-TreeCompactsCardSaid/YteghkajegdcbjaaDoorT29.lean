/-
  Light, few, SameNodes: what they answer.
-/
import Derived.Test.YteghkajegdcbjaaDoorM6
import Derived.Deep.LoopGhost
import Derived.Deep.QuietTactic
import Derived.BigQuiet
import Derived.Deep.RegionHeld3
import Derived.Deep.DrawnRows
import Derived.Test.YteghkajegdcbjaaDoorP2
namespace Go.Proofs.YteghkajegdcbjaaDoor
set_option linter.unusedVariables false
set_option linter.unusedSimpArgs false
open Go.RowKit
set_option maxRecDepth 100000
set_option maxHeartbeats 2000000

/-- Has an operation few bytes? -/
def lightB (o : Opn) : Bool := decide (o.nm.size ≤ 200) && decide (o.vl.size ≤ 200)
def fewB (l : List Opn) : Bool := decide (l.length ≤ 30) && l.all lightB

theorem light_any (w : World) (k a b c d x y : Int) (nm vl : ByteArray) : Calls Tryd.prog 34 #[.agg #[.int .i64 k, .int .i64 a, .int .i64 b, .int .i64 c, .int .i64 d, .int .i64 x, .int .i64 y, .string nm, .string vl]] w (Ret (.bool (lightB ⟨k, ⟨a, b⟩, ⟨c, d⟩, ⟨x, y⟩, nm, vl⟩)) w) := by
  by_cases h1 : nm.size ≤ 200
  · by_cases h2 : vl.size ≤ 200
    · have a1 : ((nm.size : Int) ≤ 200) := by omega
      have a2 : ((vl.size : Int) ≤ 200) := by omega
      have e : lightB ⟨k, ⟨a, b⟩, ⟨c, d⟩, ⟨x, y⟩, nm, vl⟩ = true := by simp [lightB, h1, h2]
      rw [e]
      clear e h1 h2
      go_enter Tryd.func34, Tryd.ntmps34
      go_wp2
      go_ret
      exact ⟨rfl, (Below.refl _ _).alloc (Nat.le_refl _) _⟩
    · have a1 : ((nm.size : Int) ≤ 200) := by omega
      have a2 : ¬ ((vl.size : Int) ≤ 200) := by omega
      have e : lightB ⟨k, ⟨a, b⟩, ⟨c, d⟩, ⟨x, y⟩, nm, vl⟩ = false := by simp [lightB, h2]
      rw [e]
      clear e h1 h2
      go_enter Tryd.func34, Tryd.ntmps34
      go_wp2
      go_ret
      exact ⟨rfl, (Below.refl _ _).alloc (Nat.le_refl _) _⟩
  · have a1 : ¬ ((nm.size : Int) ≤ 200) := by omega
    have e : lightB ⟨k, ⟨a, b⟩, ⟨c, d⟩, ⟨x, y⟩, nm, vl⟩ = false := by simp [lightB, h1]
    rw [e]
    clear e h1
    go_enter Tryd.func34, Tryd.ntmps34
    go_wp2
    go_ret
    exact ⟨rfl, (Below.refl _ _).alloc (Nat.le_refl _) _⟩

theorem all_take {l : List Opn} {j : Nat} {x : Opn} (hj : l[j]? = some x) (h : (l.take j).all lightB = true) (hl : lightB x = true) : (l.take (j + 1)).all lightB = true := by
  obtain ⟨h1, rfl⟩ := List.getElem?_eq_some_iff.1 hj
  rw [List.take_succ_eq_append_getElem h1, List.all_append, h]
  simp [hl]
theorem few_any (w : World) (v : Value) (l : List Opn) (h : SlO w v l) : Calls Tryd.prog 11 #[v, .int .i64 30] w (Ret (.bool (fewB l)) w) := by
  have HS := Lib.hid h
  obtain ⟨A, cap, rfl, hml, hc⟩ := h.slice
  have HC := Lib.hid hc
  have HM := Lib.hid hml
  obtain ⟨n, hn⟩ : ∃ n, l.length = n := ⟨_, rfl⟩
  rw [hn]
  have HN := Lib.hid hn
  have HL := Lib.hid (light_any)
  clear h hc hml hn
  go_enter Tryd.func11, Tryd.ntmps11
  go_wp2
  go_loopg [5] 32 (fun gk v5 wr => ∃ j : Nat, v5 = .int .i64 j ∧ j ≤ 30 ∧ 31 < j + gk ∧ j ≤ n ∧ (l.take j).all lightB = true ∧ Below w.heap.size w wr)
  case atStart => exact ⟨0, rfl, by omega, by omega, by omega, by simp, Below.refl _ _⟩
  case round =>
    obtain ⟨j, rfl, hj, hm, hjn, ha, hb⟩ := hrel
    have HA := Lib.hid ha
    have HB := Lib.hid hb
    clear ha hb
    by_cases h1 : j < n
    · by_cases h2 : j < 30
      · have hjl : j < l.length := by have := HN.out; omega
        obtain ⟨a, rfl, hcap, hcell, hlt⟩ := HC.out j hjl
        have hcell' := hcell.below HB.out (by rw [add_block]; exact hlt)
        obtain ⟨x, hx⟩ : ∃ x, l[j] = x := ⟨_, rfl⟩
        have HX := Lib.hid (show l[j]? = some x by rw [List.getElem?_eq_getElem hjl, hx])
        rw [hx] at hcell'
        obtain ⟨xk, ⟨xa, xb⟩, ⟨xc, xd⟩, ⟨xe, xf⟩, xn, xv⟩ := x
        have e0 : wr.cell? (a.add (j * 9)) = some (.int .i64 xk) := hcell'.get 0 rfl
        have e1 : wr.cell? ⟨(a.add (j * 9)).block, (a.add (j * 9)).off + 1, none⟩ = some (.int .i64 xa) := hcell'.get 1 rfl
        have e2 : wr.cell? ⟨(a.add (j * 9)).block, (a.add (j * 9)).off + 2, none⟩ = some (.int .i64 xb) := hcell'.get 2 rfl
        have e3 : wr.cell? ⟨(a.add (j * 9)).block, (a.add (j * 9)).off + 3, none⟩ = some (.int .i64 xc) := hcell'.get 3 rfl
        have e4 : wr.cell? ⟨(a.add (j * 9)).block, (a.add (j * 9)).off + 4, none⟩ = some (.int .i64 xd) := hcell'.get 4 rfl
        have e5 : wr.cell? ⟨(a.add (j * 9)).block, (a.add (j * 9)).off + 5, none⟩ = some (.int .i64 xe) := hcell'.get 5 rfl
        have e6 : wr.cell? ⟨(a.add (j * 9)).block, (a.add (j * 9)).off + 6, none⟩ = some (.int .i64 xf) := hcell'.get 6 rfl
        have e7 : wr.cell? ⟨(a.add (j * 9)).block, (a.add (j * 9)).off + 7, none⟩ = some (.string xn) := hcell'.get 7 rfl
        have e8 : wr.cell? ⟨(a.add (j * 9)).block, (a.add (j * 9)).off + 8, none⟩ = some (.string xv) := hcell'.get 8 rfl
        have h3 : (j : Int) < 30 := by omega
        have h4 : (0 : Int) ≤ j := by omega
        have h5 : (j : Int).toNat = j := by omega
        have h6 : (j : Int) < n := by omega
        have HJ := Lib.hid hjl
        clear hcell hcell' hx hjl hcap hlt
        obtain ⟨q, hq⟩ : ∃ q, lightB ⟨xk, ⟨xa, xb⟩, ⟨xc, xd⟩, ⟨xe, xf⟩, xn, xv⟩ = q := ⟨_, rfl⟩
        have hli : ∀ W, Calls Tryd.prog 34 #[.agg #[.int .i64 xk, .int .i64 xa, .int .i64 xb, .int .i64 xc, .int .i64 xd, .int .i64 xe, .int .i64 xf, .string xn, .string xv]] W (Ret (.bool q) W) := fun W => by
          have := HL.out W xk xa xb xc xd xe xf xn xv
          rwa [hq] at this
        have HLI := Lib.hid hli
        have HQ := Lib.hid hq
        clear hli hq
        cases q
        · go_wp2_with (go_at_call 34; (with_reducible refine (HLI.out _).mono ?_); rintro e w1 ⟨rfl, hb1⟩)
          go_ret
          refine ⟨ret_bool ?_, below_up HB.out hb1 HB.out.size⟩
          have e9 : l.all lightB = false := by
            rw [List.all_eq_false]
            exact ⟨_, List.mem_of_getElem? HX.out, by rw [HQ.out]; simp⟩
          simp [fewB, e9]
        · go_wp2_with (go_at_call 34; (with_reducible refine (HLI.out _).mono ?_); rintro e w1 ⟨rfl, hb1⟩)
          go_roundg (31 - j)
          case measure => omega
          case rel => exact ⟨j + 1, by go_num, by omega, by omega, by omega, all_take HX.out HA.out HQ.out, below_up HB.out hb1 HB.out.size⟩
      · obtain rfl : j = 30 := by omega
        have h6 : (30 : Int) < n := by omega
        have h7 : ¬ ((n : Int) ≤ 30) := by omega
        go_wp2
        go_ret
        refine ⟨ret_bool ?_, HB.out⟩
        have := HN.out
        simp [fewB]
        omega
    · obtain rfl : j = n := by omega
      have h7 : ((j : Int) ≤ 30) := by omega
      go_wp2
      go_ret
      refine ⟨ret_bool ?_, HB.out⟩
      have h8 := HN.out
      have h9 := HA.out
      rw [List.take_of_length_le (by omega)] at h9
      simp [fewB, h9]
      omega

theorem eqNdAll (d : Nat) (w : World) (x0 x1 x2 x3 y0 y1 y2 y3 : Int) (x4 x5 y4 y5 : ByteArray) : (Op.equalIn (d + 3) 46 (.agg #[.int .i64 x0, .int .i64 x1, .int .i64 x2, .int .i64 x3, .string x4, .string x5]) (.agg #[.int .i64 y0, .int .i64 y1, .int .i64 y2, .int .i64 y3, .string y4, .string y5])).run Tryd.prog w = .ok (decide ((⟨⟨x0, x1⟩, ⟨x2, x3⟩, x4, x5⟩ : Nd) = ⟨⟨y0, y1⟩, ⟨y2, y3⟩, y4, y5⟩)) w := by
  have hb : ∀ p q : ByteArray, p.toList = q.toList ↔ p = q := fun p q => ⟨fun h => by
    have := congrArg List.toArray h
    cases p; cases q
    simpa [Lib.toList_data] using this, fun h => by rw [h]⟩
  rw [run_equalIn_struct w (d + 2) 46 _ _ (by kernel_rfl) (by kernel_rfl)]
  go_simp
  by_cases h0 : x0 = y0
  · by_cases h1 : x1 = y1
    · by_cases h2 : x2 = y2
      · by_cases h3 : x3 = y3
        · by_cases h4 : x4 = y4
          · by_cases h5 : x5 = y5
            · simp [h0, h1, h2, h3, h4, h5]
            · simp [h0, h1, h2, h3, h4, h5, hb]
          · simp [h0, h1, h2, h3, h4, hb]
        · simp [h0, h1, h2, h3]
      · simp [h0, h1, h2]
    · simp [h0, h1]
  · simp [h0]

/-- Two slices that read as the same nodes are the same. -/
theorem same_any (w : World) (v1 v2 : Value) (l : List Nd) (h1 : SlN w v1 l) (h2 : SlN w v2 l) : Calls Tryd.prog 16 #[v1, v2] w (Ret (.bool true) w) := by
  obtain ⟨A1, cap1, rfl, hml, hc1⟩ := h1.slice
  obtain ⟨A2, cap2, rfl, _, hc2⟩ := h2.slice
  have HC1 := Lib.hid hc1
  have HC2 := Lib.hid hc2
  unfold maxLen at hml
  obtain ⟨n, hn⟩ : ∃ n, l.length = n := ⟨_, rfl⟩
  have h7 : (n : Int) ≤ 9223372036854775807 := by omega
  rw [hn]
  have HN := Lib.hid hn
  clear h1 h2 hml hc1 hc2 hn
  go_enter Tryd.func16, Tryd.ntmps16
  go_wp2
  go_loopg [5] (n + 1) (fun gk v5 wr => ∃ j : Nat, v5 = .int .i64 j ∧ j ≤ n ∧ n < j + gk ∧ Below w.heap.size w wr)
  case atStart => exact ⟨0, rfl, by omega, by omega, Below.refl _ _⟩
  case round =>
    obtain ⟨j, rfl, hj, hm, hb⟩ := hrel
    have HB := Lib.hid hb
    clear hb
    by_cases hjn : j < n
    · have hjl : j < l.length := by have := HN.out; omega
      obtain ⟨a1, rfl, hcap1, hcell1, hlt1⟩ := HC1.out j hjl
      obtain ⟨a2, rfl, hcap2, hcell2, hlt2⟩ := HC2.out j hjl
      have q1 := hcell1.below HB.out (by rw [add_block]; exact hlt1)
      have q2 := hcell2.below HB.out (by rw [add_block]; exact hlt2)
      have z1 : (a1.add (j * 6)).block < wr.heap.size := by rw [add_block]; have := HB.out.size; omega
      have z2 : (a2.add (j * 6)).block < wr.heap.size := by rw [add_block]; have := HB.out.size; omega
      obtain ⟨x, hx⟩ : ∃ x, l[j] = x := ⟨_, rfl⟩
      rw [hx] at q1 q2
      obtain ⟨⟨xa, xb⟩, ⟨xc, xd⟩, xn, xv⟩ := x
      have K : ∀ w', Below wr.heap.size wr w' → (w'.cell? (a1.add (j * 6)) = some (.int .i64 xa) ∧ w'.cell? ⟨(a1.add (j * 6)).block, (a1.add (j * 6)).off + 1, none⟩ = some (.int .i64 xb) ∧ w'.cell? ⟨(a1.add (j * 6)).block, (a1.add (j * 6)).off + 2, none⟩ = some (.int .i64 xc) ∧ w'.cell? ⟨(a1.add (j * 6)).block, (a1.add (j * 6)).off + 3, none⟩ = some (.int .i64 xd) ∧ w'.cell? ⟨(a1.add (j * 6)).block, (a1.add (j * 6)).off + 4, none⟩ = some (.string xn) ∧ w'.cell? ⟨(a1.add (j * 6)).block, (a1.add (j * 6)).off + 5, none⟩ = some (.string xv) ∧ w'.cell? (a2.add (j * 6)) = some (.int .i64 xa) ∧ w'.cell? ⟨(a2.add (j * 6)).block, (a2.add (j * 6)).off + 1, none⟩ = some (.int .i64 xb) ∧ w'.cell? ⟨(a2.add (j * 6)).block, (a2.add (j * 6)).off + 2, none⟩ = some (.int .i64 xc) ∧ w'.cell? ⟨(a2.add (j * 6)).block, (a2.add (j * 6)).off + 3, none⟩ = some (.int .i64 xd) ∧ w'.cell? ⟨(a2.add (j * 6)).block, (a2.add (j * 6)).off + 4, none⟩ = some (.string xn) ∧ w'.cell? ⟨(a2.add (j * 6)).block, (a2.add (j * 6)).off + 5, none⟩ = some (.string xv) ∧ Below wr.heap.size wr w') := fun w' hw => by
        have r1 := q1.below hw z1
        have r2 := q2.below hw z2
        exact ⟨r1.get 0 rfl, r1.get 1 rfl, r1.get 2 rfl, r1.get 3 rfl, r1.get 4 rfl, r1.get 5 rfl, r2.get 0 rfl, r2.get 1 rfl, r2.get 2 rfl, r2.get 3 rfl, r2.get 4 rfl, r2.get 5 rfl, hw⟩
      have hk0 : Below wr.heap.size wr wr.drew := (Below.refl _ _).drew
      have h4 : (0 : Int) ≤ j := by omega
      have h5 : (j : Int).toNat = j := by omega
      have h6 : (j : Int) < n := by omega
      have E1 := fun W => eqNdAll 9997 W xa xb xc xd xa xb xc xd xn xv xn xv
      simp only [decide_true] at E1
      have HJN := Lib.hid (And.intro hjn (And.intro hj hm))
      clear hcell1 hcell2 q1 q2 z1 z2 hx hjl hcap1 hcap2 hlt1 hlt2
      go_wp2
      go_region_held3 (fun w' => w'.cell? (a1.add (j * 6)) = some (.int .i64 xa) ∧ w'.cell? ⟨(a1.add (j * 6)).block, (a1.add (j * 6)).off + 1, none⟩ = some (.int .i64 xb) ∧ w'.cell? ⟨(a1.add (j * 6)).block, (a1.add (j * 6)).off + 2, none⟩ = some (.int .i64 xc) ∧ w'.cell? ⟨(a1.add (j * 6)).block, (a1.add (j * 6)).off + 3, none⟩ = some (.int .i64 xd) ∧ w'.cell? ⟨(a1.add (j * 6)).block, (a1.add (j * 6)).off + 4, none⟩ = some (.string xn) ∧ w'.cell? ⟨(a1.add (j * 6)).block, (a1.add (j * 6)).off + 5, none⟩ = some (.string xv) ∧ w'.cell? (a2.add (j * 6)) = some (.int .i64 xa) ∧ w'.cell? ⟨(a2.add (j * 6)).block, (a2.add (j * 6)).off + 1, none⟩ = some (.int .i64 xb) ∧ w'.cell? ⟨(a2.add (j * 6)).block, (a2.add (j * 6)).off + 2, none⟩ = some (.int .i64 xc) ∧ w'.cell? ⟨(a2.add (j * 6)).block, (a2.add (j * 6)).off + 3, none⟩ = some (.int .i64 xd) ∧ w'.cell? ⟨(a2.add (j * 6)).block, (a2.add (j * 6)).off + 4, none⟩ = some (.string xn) ∧ w'.cell? ⟨(a2.add (j * 6)).block, (a2.add (j * 6)).off + 5, none⟩ = some (.string xv) ∧ Below wr.heap.size wr w') (exact K _ hk0) (fail)
      go_wp2
      go_roundg (n - j)
      case measure => have := HJN.out; omega
      case rel => exact ⟨j + 1, by go_num, by have := HJN.out; omega, by have := HJN.out; omega, below_up HB.out hk0 HB.out.size⟩
    · obtain rfl : j = n := by omega
      go_wp2
      go_ret
      exact ⟨rfl, HB.out⟩
end Go.Proofs.YteghkajegdcbjaaDoor
