/- mark: the names, sorted in their row. -/
import Derived.Test.YtfgfhfmhadondaaDoorMarkF
namespace Go.Proofs.YtfgfhfmhadondaaDoor
open Go.RowKit Go.Maps Go.Shelf Go.Lib Go.Sort
set_option maxHeartbeats 400000

theorem names_at (L : List NameS) (q : Nat) (x : NameS) (h : L[q]? = some x) (s : Nat) (hs : s < 32) : (L.flatMap encN)[q * 32 + s]? = (encN x)[s]? := by
  induction L generalizing q with
  | nil => simp at h
  | cons y t ih =>
    cases q with
    | zero =>
      simp at h; subst h
      rw [List.flatMap_cons, List.getElem?_append_left (by rw [encN_len]; omega)]
      simp
    | succ q =>
      have := ih q (by simpa using h)
      rw [List.flatMap_cons, List.getElem?_append_right (by rw [encN_len]; omega), ← this]
      congr 1; rw [encN_len]; omega
theorem names_get (L : List NameS) (j : Nat) (h : j < L.length * 32) : (L.flatMap encN)[j]? = some (flatK encN 32 L.toArray)[j]! := by
  have hq : j / 32 < L.length := by omega
  have h1 := names_at L (j / 32) L[j / 32] (List.getElem?_eq_getElem hq) (j % 32) (by omega)
  rw [show j / 32 * 32 + j % 32 = j by omega] at h1
  rw [h1, get_flatK encN 32 L.toArray j (by simpa using h)]
  have h2 : (L.toArray)[j / 32]! = L[j / 32] := by simp [hq]
  have h3 : j % 32 < (encN L[j / 32]).length := by rw [encN_len]; omega
  rw [h2, List.getElem?_eq_getElem h3]
  simp [h3]
theorem holds_of_own {w : World} {g cap : Nat} {L : List NameS} (h : Own w 60 32 (.slice (some ⟨g, 0, none⟩) L.length cap) L.length (L.flatMap encN)) : HoldsK encN 32 w g 0 L.toArray := by
  obtain ⟨ao, c, hv, hr, -⟩ := Own.shape h
  cases hv
  intro j hj
  rw [size_flatK] at hj
  have hj' : j < L.length * 32 := by simpa using hj
  have h1 := hr.cell j _ (names_get L j hj')
  refine ⟨h1, ?_⟩
  rcases h.2 with ⟨h, -⟩ | ⟨g', cap', cur, h, -, hg, -⟩
  · cases h
  · cases h
    simp [World.frozen?, hg]
theorem rd_of_holds {w : World} {g : Nat} {L : List NameS} (h : HoldsK encN 32 w g 0 L.toArray) : Rd w (some ⟨g, 0, none⟩) (L.flatMap encN) := by
  intro j u hj
  have hl := (List.getElem?_eq_some_iff.1 hj).1
  rw [names_len] at hl
  rw [names_get L j hl] at hj
  have := (h j (by rw [size_flatK]; simpa using hl)).1
  exact ⟨g, 0, rfl, by rw [this]; exact hj⟩
theorem ext_sorted (w : World) (g n : Nat) (d : Array NameS) (os : Array Obj) : Ext (fun k => k = g) w (sortWorldK encN 32 w g 0 n d os) := by
  refine ⟨rfl, rfl, rfl, ?_, fun i hi hg => ?_⟩
  · simp [sortWorldK, grow, putRowK, putRow, mapBlock, Sort.ahead]
  · have hg' : g ≠ i := fun e => hg e.symm
    have h1 : i < ((putRowK encN 32 (Sort.ahead w n) g 0 d).heap).size := by simp [putRowK, putRow, mapBlock, Sort.ahead]; exact hi
    show ((putRowK encN 32 (Sort.ahead w n) g 0 d).heap ++ os)[i]? = w.heap[i]?
    rw [Array.getElem?_append_left h1]
    simp [putRowK, putRow, mapBlock, Sort.ahead, Array.getElem?_modify, hg']

def sortL (L : List NameS) : List NameS := L.mergeSort fun x y => !(ltOf cfN) y x
theorem totN : ∀ x y : NameS, (ltOf cfN) x y = false → (ltOf cfN) y x = false → x = y := by
  intro x y h1 h2
  rw [ltN] at h1 h2
  simp only [decide_eq_false_iff_not] at h1 h2
  exact Subtype.ext (List.le_antisymm (List.not_lt.1 h2) (List.not_lt.1 h1))
theorem sortL_perm (L : List NameS) : (sortL L).Perm L := List.mergeSort_perm _ _
theorem sortL_len (L : List NameS) : (sortL L).length = L.length := (sortL_perm L).length_eq

set_option maxRecDepth 100000 in
theorem sort_names (g cap : Nat) (L : List NameS) (w : World) (hown : Own w 60 32 (.slice (some ⟨g, 0, none⟩) L.length cap) L.length (L.flatMap encN)) (hl : L.length ≤ 1000000) :
    Calls Tryd.prog 90 #[.slice (some ⟨g, 0, none⟩) L.length cap, .func (.func 89) #[] #[]] w fun e w' =>
      e = .returned (.tuple #[]) ∧ Rd w' (some ⟨g, 0, none⟩) ((sortL L).flatMap encN) ∧ Ext (fun k => k = g) w w' := by
  have eg : ∀ args w, (callFunc 89 args).run Tryd.prog w = .ok (.enter 89 args) w := enters_of Tryd.func89 (by kernel_rfl) rfl
  have hH := holds_of_own hown
  have hg : g < w.heap.size := Own.lt' hown g rfl
  have hs : L.toArray.size = L.length := by simp
  have hc := AnyQ.slices_SortFunc_total Tryd.sortNames 32 (fun _ => by kernel_rfl) (fun _ => by kernel_rfl) encN encN_len (fun x v hv => oneCell_byt x.1 v hv) cfN swoN 89 #[] g 0 cap L.toArray w eg (cmpLaysN g 0 L.toArray.size w) hH hg (by rw [hs]; omega) totN
  rw [hs] at hc
  refine hc.mono ?_
  rintro e w' ⟨rfl, n, os, rfl⟩
  refine ⟨rfl, ?_, ext_sorted w g n _ os⟩
  exact rd_of_holds (holdsK_sortWorldK encN 32 w g 0 n L.toArray (sortL L).toArray os hg hH (by simp [sortL_len]))
theorem sort_none (p : Option Addr) (cap : Nat) (w : World) :
    Calls Tryd.prog 90 #[.slice p 0 cap, .func (.func 89) #[] #[]] w fun e w' => e = .returned (.tuple #[]) ∧ w = w' :=
  (AnyF.slices_SortFunc_none Tryd.sortNames p cap _ w).mono fun _ _ ⟨h1, h2⟩ => ⟨h1, h2.symm⟩
/-- The names' row, whatever it is, sorted. -/
theorem sort_any (v : Value) (L : List NameS) (w : World) (hown : Own w 60 32 v L.length (L.flatMap encN)) (hl : L.length ≤ 1000000) :
    ∃ ao cap, v = .slice ao L.length cap ∧ (∀ k, inA ao k → v.ownBlock = some k) ∧ Calls Tryd.prog 90 #[.slice ao L.length cap, .func (.func 89) #[] #[]] w fun e w' =>
      e = .returned (.tuple #[]) ∧ Rd w' ao ((sortL L).flatMap encN) ∧ Ext (fun k => v.ownBlock = some k) w w' := by
  have hown' := hown
  rcases hown.2 with ⟨rfl, h0⟩ | ⟨g, cap, cur, rfl, -, -, -, -, -, -⟩
  · have hL : L = [] := List.eq_nil_of_length_eq_zero h0
    subst hL
    refine ⟨none, 0, rfl, (fun k ⟨a, ha, _⟩ => by cases ha), ?_⟩
    refine (sort_none none 0 w).mono ?_
    rintro e w' ⟨rfl, rfl⟩
    have h0 : sortL [] = [] := List.eq_nil_of_length_eq_zero (sortL_len [])
    rw [h0]
    exact ⟨rfl, Rd.nil _ _, Ext.refl _ _⟩
  · refine ⟨some ⟨g, 0, none⟩, cap, rfl, (fun k ⟨a, ha, hb⟩ => by cases ha; rw [← hb]; rfl), ?_⟩
    refine (sort_names g cap L w hown' hl).mono ?_
    rintro e w' ⟨rfl, h1, h2⟩
    exact ⟨rfl, h1, h2.mono (fun i _ hi => by rw [hi]; rfl)⟩
end Go.Proofs.YtfgfhfmhadondaaDoor
