/-
  name.Check: which texts are names.
-/
import Derived.Test.YteghkajegdcbjaaDoorT1
import Derived.Test.YteghkajegdcbjaaDoorP2
import Derived.Test.YteghkajegdcbjaaDoorSh2
import Derived.Lib.OthersKept
import Derived.Deep.LoopGhost
namespace Go.Proofs.YteghkajegdcbjaaDoor
open Go.RowKit
set_option maxRecDepth 100000
set_option maxHeartbeats 1000000

theorem odd_any (c : Int) (w : World) : Calls Tryd.prog 78 #[.int .i32 c] w (Ret (.bool (oddC c)) w) := by
  go_enter Tryd.func78, Tryd.ntmps78
  by_cases h1 : c = 47
  · subst h1
    go_wp2
    go_ret
    exact ⟨rfl, Below.refl _ _⟩
  · by_cases h2 : c < 32
    · have H := Lib.hid (show oddC c = true by simp [oddC, h2])
      go_wp2
      go_ret
      exact ⟨by rw [H.out]; simp, Below.refl _ _⟩
    · by_cases h3 : 127 ≤ c
      · have H := Lib.hid (show oddC c = decide (c ≤ 159) by simp [oddC, h1, h2, h3])
        have H1 := Lib.hid (show (c == 47) = false by simpa using h1)
        go_wp2
        go_ret
        exact ⟨by rw [H.out]; simp [H1.out], Below.refl _ _⟩
      · have H := Lib.hid (show oddC c = false by simp [oddC, h1, h2, h3])
        have H1 := Lib.hid (show (c == 47) = false by simpa using h1)
        go_wp2
        go_ret
        exact ⟨by rw [H.out]; simp [H1.out], Below.refl _ _⟩

def Tabs (w : World) : Prop := Lib.Utf8Tabs (Tryd.validS_ren.g 3) (Tryd.validS_ren.g 4) w
theorem Tabs.below {B : Nat} {w w' : World} (h : Tabs w) (hb : Below B w w') (hB : w.heap.size ≤ B) : Tabs w' := Utf8Tabs_below h (hb.mono hB)
theorem und_str : Tryd.prog.underlying 9 = some .string := by kernel_rfl
theorem name_any (s : ByteArray) (w : World) (hs : s.size ≤ 4611686018427387904) (hT : Tabs w) : Calls Tryd.prog 49 #[.string s] w (Ret (.int .i64 (nameE s)) w) := by
  have HT := Lib.hid hT
  obtain ⟨R, hR⟩ : ∃ R, scanR s s.size 0 = R := ⟨_, rfl⟩
  have HR := Lib.hid hR
  clear hT hR
  go_enter Tryd.func49, Tryd.ntmps49
  go_wp2
  go_loopg [3] s.size (fun gk v3 wr => ∃ n p : Nat, v3 = .int .i64 n ∧ n ≤ p ∧ s.size ≤ p + gk ∧ Aside ((scanR s gk p).map (· + n) = R) ∧ wr.heap[w.heap.size]? = some (.stringIter s p) ∧ Below w.heap.size w wr)
  case atStart =>
    exact ⟨0, 0, rfl, Nat.le_refl _, by omega, by have := HR.out; rw [← this]; cases scanR s s.size 0 <;> rfl, by first | exact Array.getElem?_push_size | (trace_state; simp), (Below.refl _ _).alloc (Nat.le_refl _) _⟩
  case round =>
    obtain ⟨n, p, rfl, hnp, hsp, HA, hI, HB⟩ := hrel
    by_cases hp : p < s.size
    · obtain ⟨k, rfl⟩ : ∃ k, gk = k + 1 := ⟨gk - 1, by omega⟩
      have hA := HA.out
      simp only [scanR, if_pos hp] at hA
      have hrun := Lib.run_next_any_at (P := Tryd.prog) wr w.heap.size s p
      have hw := Lib.width_pos s p
      have hI2 := Lib.iterAt_heap wr w.heap.size s p (p + (Utf8.decode s p).2) hI
      have hB2 := Lib.below_iterAt HB (Nat.le_refl _) s (p + (Utf8.decode s p).2)
      obtain ⟨c, hc⟩ : ∃ c, (Utf8.decode s p).1 = c := ⟨_, rfl⟩
      obtain ⟨d, hd⟩ : ∃ d, (Utf8.decode s p).2 = d := ⟨_, rfl⟩
      rw [hc, hd] at hA
      simp only [hc, hd] at hrun hw hI2 hB2
      have hr2 := fun ty => hrun ty hI hp
      clear HA hrun
      generalize wr.iterAt w.heap.size s (p + d) = w2 at *
      cases ho : oddC c
      · rw [ho] at hA
        simp only [Bool.false_eq_true, if_false] at hA
        have HA := Lib.hid hA
        have HO := Lib.hid ho
        have HI := Lib.hid hI2
        clear hA ho hc hd hI hI2
        go_wp2_with (go_at_call 78; refine (odd_any _ _).mono ?_; rintro e w3 ⟨rfl, hb⟩; rw [HO.out])
        go_roundg k
        case measure => omega
        case rel => exact ⟨n + 1, p + d, by go_num, by omega, by omega, by have := HA.out; rw [← this]; cases scanR s k (p + d) <;> simp [Aside]; omega, (hb.block _ (by have := HB.size; have := Array.getElem?_eq_some_iff.1 HI.out; obtain ⟨h, _⟩ := this; exact h)).trans HI.out, below_up hB2 hb (by have := hB2.size; omega)⟩
      · rw [ho] at hA
        simp only [if_true] at hA
        have HO := Lib.hid ho
        have HE := Lib.hid (show nameE s = 80 by simp [nameE, nameOk, HR.out, ← hA])
        clear hA ho hc hd hI hI2
        go_wp2_with (go_at_call 78; refine (odd_any _ _).mono ?_; rintro e w3 ⟨rfl, hb⟩; rw [HO.out])
        go_ret
        exact ⟨by rw [HE.out]; rfl, below_up hB2 hb (by have := hB2.size; omega)⟩
    · have hrun := fun ty => Lib.run_next_end_at (P := Tryd.prog) wr w.heap.size s p ty hI hp
      have hA : some n = R := by rw [← HA.out]; cases gk <;> simp [scanR, hp]
      obtain ⟨V, hV⟩ : ∃ V, Lib.validD s.data.toList = V := ⟨_, rfl⟩
      obtain ⟨B1, hB1⟩ : ∃ B1, (s.toList == [46]) = B1 := ⟨_, rfl⟩
      obtain ⟨B2, hB2⟩ : ∃ B2, (s.toList == [46, 46]) = B2 := ⟨_, rfl⟩
      obtain ⟨S1, hS1⟩ : ∃ S1, Lib.hasPrefix s.data.toList [32] = S1 := ⟨_, rfl⟩
      obtain ⟨S2, hS2⟩ : ∃ S2, Lib.hasSuffix s.data.toList [32] = S2 := ⟨_, rfl⟩
      have hE : nameE s = if decide (1 ≤ n) && decide (n ≤ 32) && V && !B1 && !B2 && !S1 && !S2 then 0 else 80 := by
        simp only [nameE, nameOk, HR.out, ← hA, hV, hB1, hB2, hS1, hS2]
      have hcv : ∀ W, Below w.heap.size w W → Calls Tryd.prog 79 #[.string s] W (Ret (.bool V) W) := fun W hW => by
        have := Any.utf8_ValidString Tryd.validS s W (by omega) (Tabs.below HT.out hW (Nat.le_refl _))
        rw [hV] at this
        exact this
      have hcp : ∀ W, Calls Tryd.prog 80 #[.string s, .string ⟨#[32]⟩] W fun e w' => e = .returned (.bool S1) ∧ w' = W := fun W => by
        have := Any.strings_HasPrefix Tryd.hasPre s ⟨#[32]⟩ W
        simp only at this
        rw [hS1] at this
        exact this
      have hcs : ∀ W, Calls Tryd.prog 81 #[.string s, .string ⟨#[32]⟩] W fun e w' => e = .returned (.bool S2) ∧ w' = W := fun W => by
        have := Any.strings_HasSuffix Tryd.hasSuf s ⟨#[32]⟩ W (by omega)
        simp only at this
        rw [hS2] at this
        exact this
      have CV := Lib.hid hcv
      have CP := Lib.hid hcp
      have CS := Lib.hid hcs
      have HE := Lib.hid hE
      clear hV hS1 hS2 hcv hcp hcs hE HA hA hI hsp hnp
      by_cases h1 : n < 1
      · have h2 : ((n : Int) < 1) := by omega
        have HE3 := Lib.hid (show nameE s = 80 by rw [HE.out, if_neg]; simp; omega)
        go_wp2
        go_ret
        exact ⟨by rw [HE3.out]; rfl, HB⟩
      · by_cases h2 : 32 < n
        · have h3 : (32 : Int) < n := by omega
          have h4 : ¬ ((n : Int) < 1) := by omega
          have HE3 := Lib.hid (show nameE s = 80 by rw [HE.out, if_neg]; simp; omega)
          clear h1 h2
          go_wp2
          go_ret
          exact ⟨by rw [HE3.out]; rfl, HB⟩
        · have h3 : ¬ ((32 : Int) < n) := by omega
          have h4 : ¬ ((n : Int) < 1) := by omega
          have HE2 : Hid (nameE s = if V && !B1 && !B2 && !S1 && !S2 then 0 else 80) := by
            have e1 : decide (1 ≤ n) = true := by simp; omega
            have e2 : decide (n ≤ 32) = true := by simp; omega
            have := HE.out
            rw [e1, e2] at this
            exact Lib.hid (by simpa using this)
          clear HE h1 h2
          cases V
          · go_wp2_with (go_at_call 79; refine (CV.out _ HB).mono ?_; rintro e w3 ⟨rfl, hb⟩)
            go_ret
            exact ⟨by rw [HE2.out]; rfl, below_up HB hb HB.size⟩
          · cases B1
            case true =>
              have hq : s.toList = [46] := by simpa using hB1
              clear hB1
              go_wp2_with (go_at_call 79; refine (CV.out _ HB).mono ?_; rintro e w3 ⟨rfl, hb⟩)
              go_ret
              exact ⟨by rw [HE2.out]; rfl, below_up HB hb HB.size⟩
            case false =>
              have hq : ¬ s.toList = [46] := by simpa using hB1
              clear hB1
              cases B2
              case true =>
                have hq2 : s.toList = [46, 46] := by simpa using hB2
                clear hB2
                go_wp2_with (go_at_call 79; refine (CV.out _ HB).mono ?_; rintro e w3 ⟨rfl, hb⟩)
                go_ret
                exact ⟨by rw [HE2.out]; rfl, below_up HB hb HB.size⟩
              case false =>
                have hq2 : ¬ s.toList = [46, 46] := by simpa using hB2
                clear hB2
                cases S1
                case true =>
                  go_wp2_with (first
                    | (go_at_call 79; refine (CV.out _ HB).mono ?_; rintro e w3 ⟨rfl, hb⟩)
                    | (go_at_call 80; refine (CP.out _).mono ?_; rintro e w4 ⟨rfl, rfl⟩))
                  go_ret
                  exact ⟨by rw [HE2.out]; rfl, below_up HB hb HB.size⟩
                case false =>
                  cases S2
                  all_goals
                    go_wp2_with (first
                      | (go_at_call 79; refine (CV.out _ HB).mono ?_; rintro e w3 ⟨rfl, hb⟩)
                      | (go_at_call 80; refine (CP.out _).mono ?_; rintro e w4 ⟨rfl, rfl⟩)
                      | (go_at_call 81; refine (CS.out _).mono ?_; rintro e w4 ⟨rfl, rfl⟩))
                    all_goals first
                      | (rename_i hx; simp [hq, hq2] at hx; done)
                      | (go_ret; exact ⟨by rw [HE2.out]; rfl, below_up HB hb HB.size⟩)
end Go.Proofs.YteghkajegdcbjaaDoor
