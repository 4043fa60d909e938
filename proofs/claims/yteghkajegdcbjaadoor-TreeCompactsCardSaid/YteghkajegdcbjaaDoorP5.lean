/-
  Plain data: the four operations of the law's own tree.
-/
import Derived.Test.YteghkajegdcbjaaDoorP4
import Derived.KernelRfl
namespace Go.Proofs.YteghkajegdcbjaaDoor
open Go.RowKit

def aw1 : Opn := ⟨2, ⟨6, 1⟩, ⟨2, 1⟩, ⟨1, 1⟩, ⟨#[]⟩, ⟨#[]⟩⟩
def aw2 : Opn := ⟨1, ⟨2, 1⟩, ⟨2, 1⟩, ⟨0, 0⟩, ⟨#[98]⟩, ⟨#[]⟩⟩
def aw3 : Opn := ⟨1, ⟨1, 1⟩, ⟨1, 1⟩, ⟨0, 0⟩, ⟨#[97]⟩, ⟨#[]⟩⟩
def aw4 : Opn := ⟨2, ⟨5, 1⟩, ⟨1, 1⟩, ⟨2, 1⟩, ⟨#[]⟩, ⟨#[]⟩⟩
theorem ok_a : nameOk ⟨#[97]⟩ = true := by
  unfold nameOk
  rw [Lib.toList_data]
  kernel_rfl
theorem ok_b : nameOk ⟨#[98]⟩ = true := by
  unfold nameOk
  rw [Lib.toList_data]
  kernel_rfl
theorem ok1 : okOp aw1 = true := by simp [okOp, aw1, mayP, outerP, Lib.toList_data]
theorem ok2 : okOp aw2 = true := by simp [okOp, aw2, mayP, outerP, Lib.toList_data, ok_b]
theorem ok3 : okOp aw3 = true := by simp [okOp, aw3, mayP, outerP, Lib.toList_data, ok_a]
theorem ok4 : okOp aw4 = true := by simp [okOp, aw4, mayP, outerP, Lib.toList_data]

def awN2 : List Nd := [⟨⟨2, 1⟩, ⟨0, 0⟩, ⟨#[98]⟩, ⟨#[]⟩⟩]
def awN3 : List Nd := [⟨⟨1, 1⟩, ⟨0, 0⟩, ⟨#[97]⟩, ⟨#[]⟩⟩, ⟨⟨2, 1⟩, ⟨1, 1⟩, ⟨#[98]⟩, ⟨#[]⟩⟩]
def awN4 : List Nd := [⟨⟨1, 1⟩, ⟨2, 1⟩, ⟨#[97]⟩, ⟨#[]⟩⟩, ⟨⟨2, 1⟩, ⟨0, 0⟩, ⟨#[98]⟩, ⟨#[]⟩⟩]
def awF : List Nd := [⟨⟨1, 1⟩, ⟨0, 0⟩, ⟨#[97]⟩, ⟨#[]⟩⟩, ⟨⟨2, 1⟩, ⟨0, 0⟩, ⟨#[98]⟩, ⟨#[]⟩⟩]
theorem apply_step {T : Tr} {o : Opn} {l : List Opn} {n : List Nd} (h1 : okOp o = true) (h2 : T.base.lt o.at_ = true) (h3 : thereO T.ops o.at_ = false) (h4 : fullP T o.kind = false) (h5 : insO T.ops o = l) (h6 : foldN T.fixed l = n) :
    applyN T o = ({ T with now := n, ops := l }, 0) := by
  unfold applyN
  rw [if_neg (by simp [h1, h2]), if_neg (by simp [h3]), if_neg (by simp [h4]), h5, h6]
theorem ap1 : applyN Tr.new aw1 = (⟨[], [], [aw1], ⟨0, 0⟩⟩, 0) := apply_step ok1 (by decide) (by decide) (by decide) (by kernel_rfl) (by kernel_rfl)
theorem ap2 : applyN ⟨[], [], [aw1], ⟨0, 0⟩⟩ aw2 = (⟨[], awN2, [aw2, aw1], ⟨0, 0⟩⟩, 0) := apply_step ok2 (by decide) (by decide) (by decide) (by kernel_rfl) (by kernel_rfl)
theorem ap3 : applyN ⟨[], awN2, [aw2, aw1], ⟨0, 0⟩⟩ aw3 = (⟨[], awN3, [aw3, aw2, aw1], ⟨0, 0⟩⟩, 0) := apply_step ok3 (by decide) (by decide) (by decide) (by kernel_rfl) (by kernel_rfl)
theorem ap4 : applyN ⟨[], awN3, [aw3, aw2, aw1], ⟨0, 0⟩⟩ aw4 = (⟨[], awN4, [aw3, aw2, aw4, aw1], ⟨0, 0⟩⟩, 0) := apply_step ok4 (by decide) (by decide) (by decide) (by kernel_rfl) (by kernel_rfl)
theorem co4 : compactN ⟨[], awN4, [aw3, aw2, aw4, aw1], ⟨0, 0⟩⟩ ⟨3, 1⟩ = (⟨awF, awN4, [aw4, aw1], ⟨3, 1⟩⟩, 2) := by
  unfold compactN
  rw [if_neg (by decide)]
  kernel_rfl
end Go.Proofs.YteghkajegdcbjaaDoor
