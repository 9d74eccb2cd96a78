/- More plain numbers of chapter 1. -/
import Derived.Test.YtbmnmdpgkdaiiaaPl
namespace Go.Proofs.Ytbmnmdpgkdaiiaa.Pl
theorem lnOf_bd {c t n : Int} (h : vr c t n = true) : 0 ≤ lnOf c t n ∧ lnOf c t n ≤ 6000000 := by
  obtain ⟨h1, h2, h3, h4, h5, h6⟩ := vr_true h
  have b := ln_bd h1 h2 h3 h4 n.toNat (by omega)
  rw [lnOf_yes h]; omega
end Go.Proofs.Ytbmnmdpgkdaiiaa.Pl
