/-
  awake of the law: what must come.
-/
import Derived.Test.YteghkajegdcbjaaDoorT25
import Derived.Test.YteghkajegdcbjaaDoorP5
import Derived.Deep.DrawnRows
import Derived.Deep.AppendLies
namespace Go.Proofs.YteghkajegdcbjaaDoor
open Go.RowKit
set_option maxRecDepth 100000
set_option maxHeartbeats 4000000
attribute [local go_sem ↓] Go.wp_at_zero Go.wp_at_succ

def awT : Nat → Tr
  | 0 => Tr.new
  | 1 => ⟨[], [], [aw1], ⟨0, 0⟩⟩
  | 2 => ⟨[], awN2, [aw2, aw1], ⟨0, 0⟩⟩
  | 3 => ⟨[], awN3, [aw3, aw2, aw1], ⟨0, 0⟩⟩
  | _ => ⟨[], awN4, [aw3, aw2, aw4, aw1], ⟨0, 0⟩⟩
def awO : Nat → Opn
  | 0 => aw1
  | 1 => aw2
  | 2 => aw3
  | _ => aw4
def awL : List Opn := [aw1, aw2, aw3, aw4]
theorem aw_step : ∀ j, j < 4 → applyN (awT j) (awO j) = (awT (j + 1), 0)
  | 0, _ => ap1
  | 1, _ => ap2
  | 2, _ => ap3
  | 3, _ => ap4
  | _ + 4, h => absurd h (by omega)
theorem aw_inv : ∀ j, j ≤ 4 → Inv (awT j)
  | 0, _ => inv_new
  | j + 1, h => by
    have h1 := inv_apply (aw_inv j (by omega)) (awO j)
    rw [aw_step j (by omega)] at h1
    exact h1
theorem awO_nm : ∀ j, (awO j).nm.size ≤ 4611686018427387904
  | 0 => by show (0 : Nat) ≤ _; omega
  | 1 => by show (1 : Nat) ≤ _; omega
  | 2 => by show (1 : Nat) ≤ _; omega
  | _ + 3 => by show (0 : Nat) ≤ _; omega

/-- The read of a name out of what a call has just handed over, under a name of its own. -/
def awLoad : Oper := { dst := some 79, op := Op.load 9 (Operand.tmp 78), type := 9, pos := "law.go:28", after := #[{ on := 27, ground := Ground.data }, { on := 23, ground := Ground.guard }], guard := some (23, true) }
theorem awLoad_eq : ({ dst := some 79, op := Op.load 9 (Operand.tmp 78), type := 9, pos := "law.go:28", after := #[{ on := 27, ground := Ground.data }, { on := 23, ground := Ground.guard }], guard := some (23, true) } : Oper) = awLoad := rfl
attribute [local go_sem] awLoad
theorem awake_any (w : World) (hT : Tabs w) : Calls Tryd.prog 12 #[] w (Ret (.bool true) w) := by
  have HN := Lib.hid new_any
  have HA := Lib.hid at11_any
  have HT := Lib.hid hT
  clear hT
  go_enter Tryd.func12, Tryd.ntmps12
  go_wp2_with (first
    | (go_at_call 10; (with_reducible refine (HN.out _).mono ?_); rintro e w1 ⟨tb, F, rfl, ht, hF, hf⟩; have HB := Below.refl w1.heap.size w1)
    | (go_at_call 15; (with_reducible refine (HA.out _ _ _).mono ?_); rintro e w2 ⟨rfl, hb⟩; replace HB := below_up HB hb HB.size))
  have hTr : TreeAt w2 tb F Tr.new := ht.below HB ht.lt
  have hB2 : Below w.heap.size w w2 := below_up hf.below HB hf.size
  have hF2 : ∀ k ∈ F, k < w2.heap.size := hTr.lt
  clear ht hf HB hb
  have hL := Blk.at_ w2 (flatO awL) 30 rfl
  obtain ⟨W0, hW0⟩ : ∃ W0, w2.alloc (.cells (flatO awL).toArray 30) = W0 := ⟨_, rfl⟩
  have hlb : w2.heap.size = w2.heap.size := rfl
  rw [hW0] at hL
  have hTr0 : TreeAt W0 tb F (awT 0) := by rw [← hW0]; exact hTr.below ((Below.refl _ _).alloc (Nat.le_refl _) _) hTr.lt
  have hB0 : Below w.heap.size w W0 := by rw [← hW0]; exact hB2.alloc hB2.size _
  go_loopg [3] 5 (fun gk v3 wr => ∃ (j : Nat) (F' : List Nat), v3 = .int .i64 j ∧ j ≤ 4 ∧ 4 < j + gk ∧ TreeAt wr tb F' (awT j) ∧ (∀ x ∈ F', w.heap.size ≤ x ∧ x ≠ w2.heap.size) ∧ Below w.heap.size w wr ∧ Blk wr w2.heap.size (flatO awL) 30)
  case atStart =>
    subst hW0
    exact ⟨0, F, rfl, by omega, by omega, hTr0, fun x hx => ⟨hF x hx, fun e => by have := hF2 x hx; omega⟩, hB0, hL⟩
  case round =>
    obtain ⟨j, F', rfl, hj, hm, hT1, hF1, hB1, hL1⟩ := hrel
    by_cases hj4 : j < 4
    · have hst := aw_step j hj4
      have hap := fun W (hW : Below wr.heap.size wr W) => apply_any W tb F' (awT j) (awO j) (hT1.below hW hT1.lt) (aw_inv j hj) (Tabs.below HT.out (below_up hB1 hW hB1.size) (Nat.le_refl _)) (awO_nm j)
      have hc : ∀ k, k < 9 → wr.cell? ⟨w2.heap.size, j * 9 + k, none⟩ = (awO j).cs[k]? := fun k hk => by
        have h1 := flatO_get awL j k (by simp [awL]; omega) hk
        have h2 : awL[j]'(by simp [awL]; omega) = awO j := by
          match j, hj4 with
          | 0, _ => rfl
          | 1, _ => rfl
          | 2, _ => rfl
          | 3, _ => rfl
        rw [h2] at h1
        rw [← h1]
        unfold Blk at hL1
        simp [World.cell?, hL1]
      have e0 := hc 0 (by omega)
      have e1 := hc 1 (by omega)
      have e2 := hc 2 (by omega)
      have e3 := hc 3 (by omega)
      have e4 := hc 4 (by omega)
      have e5 := hc 5 (by omega)
      have e6 := hc 6 (by omega)
      have e7 := hc 7 (by omega)
      have e8 := hc 8 (by omega)
      have hap2 : ∀ W, Below wr.heap.size wr W → Calls Tryd.prog 13 #[.pointer (some ⟨tb, 0, none⟩), (awO j).v] W fun e w' => e = .returned (.int .i64 0) ∧ ∃ F2, TreeAt w' tb F2 (awT (j + 1)) ∧ Fr F' W w' ∧ ∀ x ∈ F2, x ∈ F' ∨ W.heap.size ≤ x := fun W hW => (hap W hW).mono (by
        rintro e w' ⟨F2, rfl, h1, h2, h3⟩
        rw [hst] at h1
        exact ⟨by rw [hst], F2, h1, h2, h3⟩)
      clear hap hst hc
      obtain ⟨x, hx⟩ : ∃ x, x = awO j := ⟨_, rfl⟩
      rw [← hx] at e0 e1 e2 e3 e4 e5 e6 e7 e8 hap2
      simp only [Opn.cs, Nat.add_zero, List.getElem?_cons_zero, List.getElem?_cons_succ] at e0 e1 e2 e3 e4 e5 e6 e7 e8
      obtain ⟨xk, ⟨xa, xb⟩, ⟨xc, xd⟩, ⟨xe, xf⟩, xn, xv⟩ := x
      clear hx
      simp only [Opn.v] at hap2
      have HAP := Lib.hid hap2
      have hj5 : (j : Int) < 4 := by omega
      have hj6 : (0 : Int) ≤ j := by omega
      have hj7 : (j : Int).toNat = j := by omega
      have hb0 : Below wr.heap.size wr wr := Below.refl _ _
      clear hap2
      go_wp2_with (go_at_call 13; (with_reducible refine (HAP.out _ hb0).mono ?_); rintro e w5 ⟨rfl, F2, hT5, hF5, hx5⟩)
      go_roundg (4 - j)
      case measure => omega
      case rel =>
        refine ⟨j + 1, F2, by go_num, by omega, by omega, hT5, fun x hx => ?_, hB1.trans (hF5.below_of hB1.size (fun x hx => (hF1 x hx).1)), hL1.of_block (hF5.block _ hL1.lt (fun hm => (hF1 _ hm).2 rfl))⟩
        rcases hx5 x hx with h1 | h1
        · exact hF1 x h1
        · exact ⟨Nat.le_trans hB1.size h1, fun e => by have := hL1.lt; omega⟩
    · obtain rfl : j = 4 := by omega
      clear hm HN
      have hg1 : ∀ W, Below wr.heap.size wr W → Calls Tryd.prog 19 #[.pointer (some ⟨tb, 0, none⟩), .agg #[.int .i64 1, .int .i64 1]] W (Ret (.tuple #[.agg #[.int .i64 1, .int .i64 1, .int .i64 2, .int .i64 1, .string ⟨#[97]⟩, .string ⟨#[]⟩], .bool true]) W) := fun W hW => get_any W tb F' (awT 4) 1 1 (hT1.below hW hT1.lt)
      have hg2 : ∀ W, Below wr.heap.size wr W → Calls Tryd.prog 19 #[.pointer (some ⟨tb, 0, none⟩), .agg #[.int .i64 2, .int .i64 1]] W (Ret (.tuple #[.agg #[.int .i64 2, .int .i64 1, .int .i64 0, .int .i64 0, .string ⟨#[98]⟩, .string ⟨#[]⟩], .bool true]) W) := fun W hW => get_any W tb F' (awT 4) 2 1 (hT1.below hW hT1.lt)
      have HG1 := Lib.hid hg1
      have HG2 := Lib.hid hg2
      have HB := Below.refl wr.heap.size wr
      clear hg1 hg2
      have HA1 := Lib.hid (fun W => at11_any 1 1 W)
      have HA2 := Lib.hid (fun W => at11_any 2 1 W)
      have HA3 := Lib.hid (fun W => at11_any 3 1 W)
      clear HA
      go_wp2_with (first
        | (go_at_call 15; (with_reducible refine (HA1.out _).mono ?_); rintro e w5 ⟨rfl, hb⟩; replace HB := below_up HB hb HB.size)
        | (go_at_call 19; (with_reducible refine (HG1.out _ HB).mono ?_); rintro e w6 ⟨rfl, hb⟩; replace HB := below_up HB hb HB.size)
        | (go_at_call 15; (with_reducible refine (HA2.out _).mono ?_); rintro e w7 ⟨rfl, hb⟩; have HB7 := below_up (HB.alloc HB.size _) hb (HB.alloc HB.size _).size)
        | (go_at_call 19; (with_reducible refine (HG2.out _ HB7).mono ?_); rintro e w8 ⟨rfl, hb8⟩; have HB8 := below_up HB7 hb8 HB7.size))
      have hA := (Blk.at_ w6 [.int .i64 1, .int .i64 1, .int .i64 2, .int .i64 1, .string ⟨#[97]⟩, .string ⟨#[]⟩] 46 rfl).of_block (hb.block w6.heap.size (by simp))
      have hA8 := (hA.of_block (hb8.block _ hA.lt)).alloc (.cells #[.int .i64 2, .int .i64 1, .int .i64 0, .int .i64 0, .string ⟨#[98]⟩, .string ⟨#[]⟩] 46)
      have hB8 := Blk.at_ w8 [.int .i64 2, .int .i64 1, .int .i64 0, .int .i64 0, .string ⟨#[98]⟩, .string ⟨#[]⟩] 46 rfl
      have hT8 := (hT1.below HB8 hT1.lt).below ((Below.refl w8.heap.size w8).alloc (Nat.le_refl _) (.cells #[.int .i64 2, .int .i64 1, .int .i64 0, .int .i64 0, .string ⟨#[98]⟩, .string ⟨#[]⟩] 46)) (hT1.below HB8 hT1.lt).lt
      have hW8 : Below w.heap.size w (w8.alloc (.cells #[.int .i64 2, .int .i64 1, .int .i64 0, .int .i64 0, .string ⟨#[98]⟩, .string ⟨#[]⟩] 46)) := (below_up hB1 HB8 hB1.size).alloc (below_up hB1 HB8 hB1.size).size _
      have nA : w6.heap.size ∉ F' := fun h => by have := hT1.lt _ h; have := HB.size; omega
      have nB : w8.heap.size ∉ F' := fun h => by have := hT1.lt _ h; have := HB8.size; omega
      have hFw : ∀ x ∈ F', w.heap.size ≤ x := fun x hx => (hF1 x hx).1
      generalize w8.alloc (.cells #[.int .i64 2, .int .i64 1, .int .i64 0, .int .i64 0, .string ⟨#[98]⟩, .string ⟨#[]⟩] 46) = W1 at *
      have K : ∀ w', Fr F' W1 w' → (w'.cell? ⟨w6.heap.size, 0, none⟩ = some (.int .i64 1) ∧ w'.cell? ⟨w6.heap.size, 1, none⟩ = some (.int .i64 1) ∧ w'.cell? ⟨w6.heap.size, 2, none⟩ = some (.int .i64 2) ∧ w'.cell? ⟨w6.heap.size, 3, none⟩ = some (.int .i64 1) ∧ w'.cell? ⟨w6.heap.size, 4, none⟩ = some (.string ⟨#[97]⟩) ∧ w'.cell? ⟨w6.heap.size, 5, none⟩ = some (.string ⟨#[]⟩) ∧ w'.cell? ⟨w8.heap.size, 2, none⟩ = some (.int .i64 0) ∧ w'.cell? ⟨w8.heap.size, 3, none⟩ = some (.int .i64 0) ∧ Fr F' W1 w') := fun w' f => by
        have h1 := hA8.fr f nA
        have h2 := hB8.fr f nB
        exact ⟨h1.cell 0 rfl, h1.cell 1 rfl, h1.cell 2 rfl, h1.cell 3 rfl, h1.cell 4 rfl, h1.cell 5 rfl, h2.cell 2 rfl, h2.cell 3 rfl, f⟩
      have hops : ∀ W, TreeAt W tb F' (awT 4) → Calls Tryd.prog 18 #[.pointer (some ⟨tb, 0, none⟩)] W fun e w' => ∃ g cap, e = .returned (.slice (some ⟨g, 0, none⟩) 4 cap) ∧ w'.cell? ⟨g, 7, none⟩ = some (.string ⟨#[97]⟩) ∧ Below W.heap.size W w' := fun W h => (ops_any W tb F' (awT 4) h (by show 4 ≤ _; omega)).mono (by
        rintro e w' ⟨v, rfl, ho, hb⟩
        obtain ⟨g, cap, rfl, h1, h2⟩ := ho.form (by show 0 < 4; omega)
        exact ⟨g, cap, rfl, OpsAt.cell (l := (awT 4).ops) (ownsRow_base ho (Nat.zero_le _)) 0 7 (by show 0 < 4; omega) (by omega), hb⟩)
      have hfix : ∀ W, TreeAt W tb F' (compactN (awT 4) ⟨3, 1⟩).1 → Calls Tryd.prog 20 #[.pointer (some ⟨tb, 0, none⟩)] W fun e w' => ∃ g cap, e = .returned (.slice (some ⟨g, 0, none⟩) 2 cap) ∧ Below W.heap.size W w' := fun W h => (fixed_any W tb F' _ (by rw [show awT 4 = ⟨[], awN4, [aw3, aw2, aw4, aw1], ⟨0, 0⟩⟩ from rfl, co4] at h; exact h) (by show 2 ≤ _; omega)).mono (by
        rintro e w' ⟨v, rfl, ho, _, hb⟩
        obtain ⟨g, cap, rfl, h1, h2⟩ := ho.form (by show 0 < 2; omega)
        exact ⟨g, cap, rfl, hb⟩)
      have hbas : ∀ W, TreeAt W tb F' (compactN (awT 4) ⟨3, 1⟩).1 → Calls Tryd.prog 21 #[.pointer (some ⟨tb, 0, none⟩)] W (Ret (.agg #[.int .i64 3, .int .i64 1]) W) := fun W h => base_any W tb F' ⟨awF, awN4, [aw4, aw1], ⟨3, 1⟩⟩ (by rw [show awT 4 = ⟨[], awN4, [aw3, aw2, aw4, aw1], ⟨0, 0⟩⟩ from rfl, co4] at h; exact h)
      have hcom : ∀ W, TreeAt W tb F' (awT 4) → Calls Tryd.prog 14 #[.pointer (some ⟨tb, 0, none⟩), .agg #[.int .i64 3, .int .i64 1]] W fun e w' => e = .returned (.int .i64 2) ∧ TreeAt w' tb F' (compactN (awT 4) ⟨3, 1⟩).1 ∧ Fr F' W w' := fun W h => (compact_any W tb F' (awT 4) 3 1 h (aw_inv 4 (by omega))).mono (by
        rintro e w' ⟨rfl, h1, h2⟩
        exact ⟨by rw [show awT 4 = ⟨[], awN4, [aw3, aw2, aw4, aw1], ⟨0, 0⟩⟩ from rfl, co4]; rfl, h1, h2⟩)
      have HOPS := Lib.hid hops
      have HFIX := Lib.hid hfix
      have HBAS := Lib.hid hbas
      have HCOM := Lib.hid hcom
      have HT8 := Lib.hid (hT8.below ((Below.refl _ _).drew) hT8.lt)
      have hk0 : Fr F' W1 W1.drew := (Fr.refl _ _).drew
      have HW8 := Lib.hid hW8
      have HFW := Lib.hid hFw
      have HAA := Lib.hid at11_any
      clear hops hfix hbas hcom hT8 hW8 hFw hA hA8 hB8 hT1 hL1 hB1 hF1 HG1 HG2 HA1 HA2 HA3 hTr hB2 hF2 hF hL hW0 hTr0 hB0 hj hlb HB HB7 HB8 hb hb8 HT
      rw [awLoad_eq]
      first
      | go_region_held3 (fun w' => w'.cell? ⟨w6.heap.size, 0, none⟩ = some (.int .i64 1) ∧ w'.cell? ⟨w6.heap.size, 1, none⟩ = some (.int .i64 1) ∧ w'.cell? ⟨w6.heap.size, 2, none⟩ = some (.int .i64 2) ∧ w'.cell? ⟨w6.heap.size, 3, none⟩ = some (.int .i64 1) ∧ w'.cell? ⟨w6.heap.size, 4, none⟩ = some (.string ⟨#[97]⟩) ∧ w'.cell? ⟨w6.heap.size, 5, none⟩ = some (.string ⟨#[]⟩) ∧ w'.cell? ⟨w8.heap.size, 2, none⟩ = some (.int .i64 0) ∧ w'.cell? ⟨w8.heap.size, 3, none⟩ = some (.int .i64 0) ∧ Fr F' W1 w') (exact K _ hk0) (first
        | (go_at_call 15; (with_reducible refine (HAA.out _ _ _).mono ?_); rintro e w9 ⟨rfl, hb9⟩; replace hk0 := hk0.trans (Fr.of_below F' hb9); replace HT8 := Lib.hid (HT8.out.below hb9 HT8.out.lt))
        | (go_at_call 18; (with_reducible refine (HOPS.out _ HT8.out).mono ?_); rintro e w9 ⟨g9, cap9, rfl, hc9, hb9⟩; replace hk0 := hk0.trans (Fr.of_below F' hb9); replace HT8 := Lib.hid (HT8.out.below hb9 HT8.out.lt))
        | (go_at_call 14; (with_reducible refine (HCOM.out _ HT8.out).mono ?_); rintro e w9 ⟨rfl, ht9, hf9⟩; replace hk0 := hk0.trans hf9; replace HT8 := Lib.hid ht9; clear ht9)
        | (go_at_call 20; (with_reducible refine (HFIX.out _ HT8.out).mono ?_); rintro e w9 ⟨g9, cap9, rfl, hb9⟩; replace hk0 := hk0.trans (Fr.of_below F' hb9); replace HT8 := Lib.hid (HT8.out.below hb9 HT8.out.lt))
        | (go_at_call 21; (with_reducible refine (HBAS.out _ HT8.out).mono ?_); rintro e w9 ⟨rfl, hb9⟩; replace hk0 := hk0.trans (Fr.of_below F' hb9); replace HT8 := Lib.hid (HT8.out.below hb9 HT8.out.lt)))
      | fail "region"
      all_goals
        go_wp2
        go_ret
        exact ⟨rfl, HW8.out.trans (hk0.below_of HW8.out.size (fun x hx => HFW.out x hx))⟩
end Go.Proofs.YteghkajegdcbjaaDoor
