/- What every law of this seat owes besides its walk, III: slices of arrays of ints, bytes, opened. -/
import Derived.Test.YtfgfhfmhadondaaDoorKitA
import Derived.Test.YtfgfhfmhadondaaDoorMarkN
namespace Go.Proofs.YtfgfhfmhadondaaDoor
open Go.ChangeShapes Go.WideShapes Go.RowKit Go.Deep
set_option maxHeartbeats 400000
set_option maxRecDepth 100000

section
variable {H : Type} {enc : TypeId × Value → H} {w : World} {held : Bool}

theorem ints_of_trod {t : TypeId} {m fuel : Nat} {cs : List Value} {x : DataW H × List MemPlace} (ht : Tryd.prog.underlying t = some (.array m 3)) (hm : Tryd.prog.cellsOf t = m)
    (h : DataW.trod enc Tryd.prog w 0 (fun _ => true) held fuel t cs = some x) : cs.length = m ∧ ∀ i, i < m → ∃ z : Int, cs[i]? = some (.int .i64 z) := by
  obtain ⟨xs, n, -, -, hl, hxl, hf⟩ := DataW.trod_array ht h
  have ci : Tryd.prog.cellsOf 3 = 1 := by kernel_rfl
  rw [hm] at hl
  refine ⟨hl, fun i hi => ?_⟩
  have h1 := hf i hi
  rw [ci, Nat.mul_one] at h1
  have hlt : i < cs.length := by omega
  have hd : (cs.drop i).take 1 = [cs[i]] := by rw [List.drop_eq_getElem_cons hlt]; rfl
  rw [hd, List.getElem?_eq_getElem (show i < xs.length by omega)] at h1
  obtain ⟨z, hz, -⟩ := int_of_trod h1
  exact ⟨z, by rw [List.getElem?_eq_getElem hlt, hz]⟩

theorem trips_of_trod {t e : TypeId} {fuel : Nat} {cs : List Value} {x : DataW H × List MemPlace} (ht : Tryd.prog.underlying t = some (.slice e)) (hs : Tryd.prog.underlying e = some (.array 3 3)) (hc : Tryd.prog.cellsOf e = 3)
    (h : DataW.trod enc Tryd.prog w 0 (fun _ => true) held fuel t cs = some x) : ∃ (ao : Option Addr) (n cap : Nat) (xs : List Trip), cs = [.slice ao n cap] ∧ TripsAt w ao n xs ∧ n ≤ cap ∧ cap ≤ maxLen := by
  rcases open_slice ht h with ⟨hcs, -⟩ | ⟨a, len, cap, m, n, D, Pl, hcs, -, hl, hm, hmm, -, hx⟩
  · exact ⟨none, 0, 0, [], hcs, ⟨rfl, Rd.nil _ _⟩, Nat.le_refl _, Nat.zero_le _⟩
  · simp only [if_true] at hmm
    subst hmm
    have each : ∀ i, i < len → ∃ r : Trip, ∀ j, j < 3 → w.cell? (a.add (i * 3 + j)) = (tripC r)[j]? := by
      intro i hi
      obtain ⟨cs', h1, h2⟩ := hx i (by omega)
      obtain ⟨hcl, hz⟩ := ints_of_trod hs hc h2
      obtain ⟨z0, hz0⟩ := hz 0 (by omega)
      obtain ⟨z1, hz1⟩ := hz 1 (by omega)
      obtain ⟨z2, hz2⟩ := hz 2 (by omega)
      rw [hc] at h1
      obtain ⟨-, -, hcell⟩ := World.cells?_some h1
      refine ⟨(z0, z1, z2), fun j hj => ?_⟩
      rw [← add_add, hcell j hj]
      have hj3 : j = 0 ∨ j = 1 ∨ j = 2 := by omega
      rcases hj3 with rfl | rfl | rfl
      · exact hz0
      · exact hz1
      · exact hz2
    obtain ⟨f, hf⟩ := choose_lt each
    refine ⟨some a, len, m, (List.range len).map f, hcs, ⟨by simp, rd_addr (fun j u hj => ?_)⟩, hl, hm⟩
    have hjl := (List.getElem?_eq_some_iff.1 hj).1
    rw [flat_len tripC 3 (fun _ => rfl), List.length_map, List.length_range] at hjl
    have hq : j / 3 < len := by omega
    have h1 := flat_at tripC 3 (fun _ => rfl) ((List.range len).map f) (j / 3) (f (j / 3)) (by simp [List.getElem?_map, List.getElem?_range hq]) (j % 3) (by omega)
    rw [show j / 3 * 3 + j % 3 = j by omega, hj] at h1
    have h2 := hf (j / 3) hq (j % 3) (by omega)
    rw [show j / 3 * 3 + j % 3 = j by omega] at h2
    rw [h2, ← h1]
theorem pairs_of_trod {t e : TypeId} {fuel : Nat} {cs : List Value} {x : DataW H × List MemPlace} (ht : Tryd.prog.underlying t = some (.slice e)) (hs : Tryd.prog.underlying e = some (.array 2 3)) (hc : Tryd.prog.cellsOf e = 2)
    (h : DataW.trod enc Tryd.prog w 0 (fun _ => true) held fuel t cs = some x) : ∃ (ao : Option Addr) (n cap : Nat) (xs : List Pair), cs = [.slice ao n cap] ∧ PairsAt w ao n xs ∧ n ≤ cap ∧ cap ≤ maxLen := by
  rcases open_slice ht h with ⟨hcs, -⟩ | ⟨a, len, cap, m, n, D, Pl, hcs, -, hl, hm, hmm, -, hx⟩
  · exact ⟨none, 0, 0, [], hcs, ⟨rfl, Rd.nil _ _⟩, Nat.le_refl _, Nat.zero_le _⟩
  · simp only [if_true] at hmm
    subst hmm
    have each : ∀ i, i < len → ∃ r : Pair, ∀ j, j < 2 → w.cell? (a.add (i * 2 + j)) = (pairC r)[j]? := by
      intro i hi
      obtain ⟨cs', h1, h2⟩ := hx i (by omega)
      obtain ⟨hcl, hz⟩ := ints_of_trod hs hc h2
      obtain ⟨z0, hz0⟩ := hz 0 (by omega)
      obtain ⟨z1, hz1⟩ := hz 1 (by omega)
      rw [hc] at h1
      obtain ⟨-, -, hcell⟩ := World.cells?_some h1
      refine ⟨(z0, z1), fun j hj => ?_⟩
      rw [← add_add, hcell j hj]
      have hj3 : j = 0 ∨ j = 1 := by omega
      rcases hj3 with rfl | rfl
      · exact hz0
      · exact hz1
    obtain ⟨f, hf⟩ := choose_lt each
    refine ⟨some a, len, m, (List.range len).map f, hcs, ⟨by simp, rd_addr (fun j u hj => ?_)⟩, hl, hm⟩
    have hjl := (List.getElem?_eq_some_iff.1 hj).1
    rw [flat_len pairC 2 (fun _ => rfl), List.length_map, List.length_range] at hjl
    have hq : j / 2 < len := by omega
    have h1 := flat_at pairC 2 (fun _ => rfl) ((List.range len).map f) (j / 2) (f (j / 2)) (by simp [List.getElem?_map, List.getElem?_range hq]) (j % 2) (by omega)
    rw [show j / 2 * 2 + j % 2 = j by omega, hj] at h1
    have h2 := hf (j / 2) hq (j % 2) (by omega)
    rw [show j / 2 * 2 + j % 2 = j by omega] at h2
    rw [h2, ← h1]
end

/-- An argument that is a slice of arrays of three ints. -/
theorem trips_arg {H : Type} {enc : TypeId × Value → H} {w : World} {base : Nat} {t e : TypeId} {v : Value} {d : DataW H} {p : List MemPlace} (ht : Tryd.prog.underlying t = some (.slice e)) (hs : Tryd.prog.underlying e = some (.array 3 3)) (hc : Tryd.prog.cellsOf e = 3)
    (hv : Value.okWide Tryd.prog w .any base t v) (h : DataW.Trod enc Tryd.prog w 0 (fun _ => true) true t v d p) :
    ∃ (ao : Option Addr) (n cap : Nat) (xs : List Trip), v = .slice ao n cap ∧ TripsAt w ao n xs ∧ n ≤ cap ∧ Joins.sliceLen d = n := by
  obtain ⟨a0, l0, c0, rfl⟩ := okWide_slice ht hv
  have hl := Joins.sliceLen_Trod ht h
  obtain ⟨f, hf⟩ := h
  obtain ⟨ao, n, cap, xs, hcs, hx, hnc, -⟩ := trips_of_trod ht hs hc hf
  simp only [Value.cells, List.cons.injEq, Value.slice.injEq, and_true] at hcs
  obtain ⟨rfl, rfl, rfl⟩ := hcs
  exact ⟨a0, l0, c0, xs, rfl, hx, hnc, hl⟩
/-- An argument that is a slice of arrays of two ints. -/
theorem pairs_arg {H : Type} {enc : TypeId × Value → H} {w : World} {base : Nat} {t e : TypeId} {v : Value} {d : DataW H} {p : List MemPlace} (ht : Tryd.prog.underlying t = some (.slice e)) (hs : Tryd.prog.underlying e = some (.array 2 3)) (hc : Tryd.prog.cellsOf e = 2)
    (hv : Value.okWide Tryd.prog w .any base t v) (h : DataW.Trod enc Tryd.prog w 0 (fun _ => true) true t v d p) :
    ∃ (ao : Option Addr) (n cap : Nat) (xs : List Pair), v = .slice ao n cap ∧ PairsAt w ao n xs ∧ n ≤ cap ∧ Joins.sliceLen d = n := by
  obtain ⟨a0, l0, c0, rfl⟩ := okWide_slice ht hv
  have hl := Joins.sliceLen_Trod ht h
  obtain ⟨f, hf⟩ := h
  obtain ⟨ao, n, cap, xs, hcs, hx, hnc, -⟩ := pairs_of_trod ht hs hc hf
  simp only [Value.cells, List.cons.injEq, Value.slice.injEq, and_true] at hcs
  obtain ⟨rfl, rfl, rfl⟩ := hcs
  exact ⟨a0, l0, c0, xs, rfl, hx, hnc, hl⟩
/-- An argument that is bytes. -/
theorem bytes_arg {H : Type} {enc : TypeId × Value → H} {w : World} {base : Nat} {v : Value} {d : DataW H} {p : List MemPlace} (hv : Value.okWide Tryd.prog w .any base 23 v) (h : DataW.Trod enc Tryd.prog w 0 (fun _ => true) true 23 v d p) :
    ∃ (ao : Option Addr) (n cap : Nat) (b : List UInt8), v = .slice ao n cap ∧ Bytes w ao n b ∧ n ≤ cap ∧ Joins.sliceLen d = n := by
  obtain ⟨a0, l0, c0, rfl⟩ := okWide_slice Tryd.underlying23 hv
  have hl := Joins.sliceLen_Trod Tryd.underlying23 h
  obtain ⟨f, hf⟩ := h
  obtain ⟨ao, n, cap, b, hcs, hx, hnc⟩ := bytes_of_trod (c := .slice a0 l0 c0) hf
  simp only [Value.slice.injEq] at hcs
  obtain ⟨rfl, rfl, rfl⟩ := hcs
  exact ⟨a0, l0, c0, b, rfl, hx, hnc, hl⟩
end Go.Proofs.YtfgfhfmhadondaaDoor
