/- What the law's wakes comes to, in plain Lean. Conditions: none. -/
import Derived.Test.YtoaggmldekejoaaDoorAsF
namespace Go.Proofs.YtoaggmldekejoaaDoor
def p1 : Py := ⟨1, 2, 1, 0, eB, eB, eB⟩
def pA (b : UInt8) : Py := ⟨2, 0, 0, 0, eB, eB, bS [b]⟩
def N1 : List Nd := [⟨p1, -1, -1⟩]
def NA (b : UInt8) : List Nd := [⟨pA b, -1, -1⟩]
def N2 : List Nd := [⟨pA 97, -1, -1⟩, ⟨p1, -1, -1⟩, ⟨zP 12, 0, 1⟩]
def N3 : List Nd := [⟨pA 97, -1, -1⟩, ⟨p1, -1, -1⟩, ⟨zP 12, 0, 1⟩, ⟨pA 98, -1, -1⟩, ⟨zP 16, 2, 3⟩]
def T3 : Tr := .two (zP 16) (.two (zP 12) (.leaf (pA 97)) (.leaf p1)) (.leaf (pA 98))
theorem w1E : madeE p1 [] = 0 := by decide +kernel
theorem w1R : madeR p1 [] = N1 := by decide +kernel
theorem w2E : madeE (zP 12) [NA 97, N1] = 0 := by decide +kernel
theorem w2R : madeR (zP 12) [NA 97, N1] = N2 := by decide +kernel
theorem w3E : madeE (zP 16) [N2, NA 98] = 0 := by decide +kernel
theorem w3R : madeR (zP 16) [N2, NA 98] = N3 := by decide +kernel
theorem w3T : treeF cntB N3 = some T3 := rfl
theorem w3O : okF N3 = true := okF_of w3T
theorem w3D : depF N3 = 3 := by rw [depF_of w3T]; rfl
theorem w3P : prT T3 = [40, 97, 32, 43, 32, 49, 41, 32, 61, 32, 98] := by
  have h1 : Lib.decDigits 1 = [49] := by rw [Lib.decDigits]; rfl
  have h2 : leafU p1 = [49] := by
    show Lib.decDigits (1 : Int).toNat = [49]
    exact h1
  unfold T3
  rw [pr_two, par_bare (show bareT (.leaf (pA 98)) = true from rfl), par_not (show bareT (.two (zP 12) (.leaf (pA 97)) (.leaf p1)) = false from rfl), pr_two, par_bare (show bareT (.leaf (pA 97)) = true from rfl), par_bare (show bareT (.leaf p1) = true from rfl), pr_leaf, pr_leaf, pr_leaf, h2]
  rfl
end Go.Proofs.YtoaggmldekejoaaDoor
