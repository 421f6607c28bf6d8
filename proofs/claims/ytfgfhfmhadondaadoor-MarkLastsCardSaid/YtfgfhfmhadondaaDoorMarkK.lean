/- mark: the plain laws of what was noted. -/
import Derived.Test.YtfgfhfmhadondaaDoorMarkJ
import Derived.Maps.Views
namespace Go.Proofs.YtfgfhfmhadondaaDoor
open Go.RowKit Go.Maps
set_option maxHeartbeats 400000

theorem keyLit_str (n : List UInt8) : WideAt.IsKeyLit (.string n) := by
  first | trivial | exact rfl | exact ⟨_, rfl⟩ | (unfold WideAt.IsKeyLit; simp)
theorem str_ne {n m : List UInt8} (h : n ≠ m) : (Lit.string n) ≠ .string m := fun e => h (by injection e)
theorem verD_put {D : DataW Unit} (h : Tidy D) (n : List UInt8) (v : Int) (d m : List UInt8) : verD (putD D n v d) m = if m = n then v else verD D m := by
  unfold verD putD
  by_cases e : m = n
  · rw [if_pos e, e, atKey_put_same h.isMap (keyLit_str n)]; rfl
  · rw [if_neg e, atKey_put_other (str_ne e)]
theorem digD_put {D : DataW Unit} (h : Tidy D) (n : List UInt8) (v : Int) (d m : List UInt8) : digD (putD D n v d) m = if m = n then d else digD D m := by
  unfold digD putD
  by_cases e : m = n
  · rw [if_pos e, e, atKey_put_same h.isMap (keyLit_str n)]; rfl
  · rw [if_neg e, atKey_put_other (str_ne e)]
theorem hasD_put {D : DataW Unit} (h : Tidy D) (n : List UInt8) (v : Int) (d m : List UInt8) : hasD (putD D n v d) m = if m = n then true else hasD D m := by
  unfold hasD putD
  by_cases e : m = n
  · rw [if_pos e, e, has_put_same h.isMap (keyLit_str n)]
  · rw [if_neg e, has_put_other (str_ne e)]
theorem sizeD_put {D : DataW Unit} (h : Tidy D) (n : List UInt8) (v : Int) (d : List UInt8) : Maps.size (putD D n v d) = if hasD D n then Maps.size D else Maps.size D + 1 := size_put h _
theorem verD_none {D : DataW Unit} {n : List UInt8} (h : hasD D n = false) : verD D n = 0 := by
  unfold verD; rw [atKey_of_not_has h]; rfl

structure GoodD (D : DataW Unit) : Prop where
  tidy : Tidy D
  size : Maps.size D ≤ 64
  ver : ∀ n, 0 ≤ verD D n ∧ verD D n ≤ 9007199254740991
  pos : ∀ n, hasD D n = true → 0 < verD D n
abbrev D0 : DataW Unit := .map []
theorem verD0 (n : List UInt8) : verD D0 n = 0 := rfl
theorem hasD0 (n : List UInt8) : hasD D0 n = false := rfl
theorem goodD0 : GoodD D0 := ⟨tidy_empty, by decide, fun n => by rw [verD0]; omega, fun n h => by rw [hasD0] at h; cases h⟩

theorem judge_bounds {D : DataW Unit} {n : List UInt8} {v : Int} {env : List UInt8} (h : judgeE D n v env = 0) : 0 ≤ v ∧ v ≤ 9007199254740991 ∧ (v = 0 ↔ env = []) ∧ verD D n ≤ v := by
  unfold judgeE at h
  by_cases h1 : v < 0 ∨ 9007199254740991 < v ∨ ¬ (v = 0 ↔ env = [])
  · rw [if_pos h1] at h; cases h
  · rw [if_neg h1] at h
    have h2 : (v = 0 ↔ env = []) := Decidable.by_contra fun e => h1 (.inr (.inr e))
    by_cases h3 : v < verD D n
    · rw [if_pos h3] at h; cases h
    · exact ⟨by omega, by omega, h2, by omega⟩
theorem GoodD.note {D : DataW Unit} (h : GoodD D) (n : List UInt8) (v : Int) (env : List UInt8) : GoodD (noteD D n v env) := by
  unfold noteD
  split
  · rename_i hh
    obtain ⟨h1, h2, h3⟩ := hh
    obtain ⟨b1, b2, -, -⟩ := judge_bounds h1
    have hv := (h.ver n).1
    refine ⟨h.tidy.put (keyLit_str n) _, ?_, fun m => ?_, fun m hm => ?_⟩
    · rw [sizeD_put h.tidy]
      have := h.size
      split
      · omega
      · rename_i hf
        have : Maps.size D ≠ 64 := fun e => h3 ⟨by simpa using hf, e⟩
        omega
    · rw [verD_put h.tidy]
      split
      · exact ⟨b1, b2⟩
      · exact h.ver m
    · rw [hasD_put h.tidy] at hm
      rw [verD_put h.tidy]
      split
      · omega
      · rename_i he
        rw [if_neg he] at hm
        exact h.pos m hm
  · exact h
theorem noteD_err {D : DataW Unit} {n : List UInt8} {v : Int} {env : List UInt8} (h : noteE D n v env ≠ 0) : noteD D n v env = D := by
  unfold noteD
  rw [if_neg]
  rintro ⟨h1, h2, h3⟩
  apply h
  unfold noteE
  rw [if_neg (by rw [h1]; simp), if_neg (by omega), if_neg h3]
theorem noteD_ver {D : DataW Unit} (h : GoodD D) (n : List UInt8) (v : Int) (env m : List UInt8) : verD D m ≤ verD (noteD D n v env) m := by
  unfold noteD
  split
  · rename_i hh
    rw [verD_put h.tidy]
    split
    · rename_i e; rw [e]; omega
    · exact Int.le_refl _
  · exact Int.le_refl _
theorem verD_zero {D : DataW Unit} (h : GoodD D) {n : List UInt8} : hasD D n = true ↔ 1 ≤ verD D n := by
  constructor
  · intro e; have := h.pos n e; omega
  · intro e
    by_cases hh : hasD D n = true
    · exact hh
    · rw [verD_none (by simpa using hh)] at e; omega

theorem sha12 : shaB [1] ≠ shaB [2] := by decide +kernel
def n1 : List UInt8 := nameB 1
def D1 : DataW Unit := putD D0 n1 3 (shaB [1])
theorem D1_ver : verD D1 n1 = 3 := by unfold D1; rw [verD_put tidy_empty, if_pos rfl]
theorem D1_has : hasD D1 n1 = true := by unfold D1; rw [hasD_put tidy_empty, if_pos rfl]
theorem D1_dig : digD D1 n1 = shaB [1] := by unfold D1; rw [digD_put tidy_empty, if_pos rfl]
theorem j_0 : judgeE D0 n1 0 [] = 0 := by unfold judgeE; rw [verD0, hasD0]; simp
theorem j_03 : judgeE D0 n1 3 [1] = 0 := by unfold judgeE; rw [verD0, hasD0]; simp
theorem n_03 : noteE D0 n1 3 [1] = 0 := by unfold noteE; rw [j_03, verD0, hasD0]; simp [Maps.size]
theorem d_03 : noteD D0 n1 3 [1] = D1 := by unfold noteD D1; rw [j_03, verD0, hasD0]; simp [Maps.size]
theorem j_2 : judgeE D1 n1 2 [2] = 100 := by unfold judgeE; rw [D1_ver]; simp
theorem j_32 : judgeE D1 n1 3 [2] = 101 := by
  unfold judgeE
  rw [if_neg (by simp), if_neg (by rw [D1_ver]; omega), if_pos ⟨D1_ver.symm, D1_has, by rw [D1_dig]; exact fun h => sha12 h.symm⟩]
theorem j_31 : judgeE D1 n1 3 [1] = 0 := by
  unfold judgeE
  rw [if_neg (by simp), if_neg (by rw [D1_ver]; omega), if_neg (fun h => h.2.2 D1_dig.symm)]
theorem j_10 : judgeE D1 n1 0 [] = 100 := by unfold judgeE; rw [D1_ver]; simp
theorem marksB0 : marksB 0 0 D0 = [0, 0, 0] := by
  unfold marksB
  rw [← namesD_eq (D := D0) (L := []) List.nodup_nil (fun n => by rw [hasD0]; simp)]
  rw [show sortL ([] : List NameS) = [] by unfold sortL; simp]
  decide
end Go.Proofs.YtfgfhfmhadondaaDoor
