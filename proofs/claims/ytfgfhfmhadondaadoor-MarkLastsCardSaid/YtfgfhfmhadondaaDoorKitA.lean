/- What every law of this seat owes besides its walk, II: ints and bytes opened; the tables; a world that fits. -/
import Derived.Test.YtfgfhfmhadondaaDoorKit
import Derived.Test.YtfgfhfmhadondaaDoorNum2
namespace Go.Proofs.YtfgfhfmhadondaaDoor
open Go.ChangeShapes Go.WideShapes Go.RowKit Go.Deep
set_option maxHeartbeats 400000
set_option maxRecDepth 100000

section
variable {H : Type} {enc : TypeId × Value → H} {w : World} {held : Bool}

theorem int_of_trod {base fuel : Nat} {sp : Nat → Bool} {c : Value} {y : DataW H × List MemPlace} (h : DataW.trod enc Tryd.prog w base sp held fuel 3 [c] = some y) : ∃ n, c = .int .i64 n ∧ (Lit.int .i64 n).wf = true := by
  have ht := Tryd.underlying3
  cases fuel with
  | zero => simp [DataW.trod] at h
  | succ fuel =>
    cases c <;> simp [DataW.trod, ht] at h
    rename_i k' n
    obtain ⟨⟨rfl, h2⟩, rfl⟩ := h
    exact ⟨n, rfl, h2⟩

theorem rd_addr {a : Addr} {cs : List Value} (h : ∀ j u, cs[j]? = some u → w.cell? (a.add j) = some u) : Rd w (some a) cs := by
  intro j u hj
  have h0 : ∃ u, w.cell? a = some u := by
    obtain ⟨u0, h0⟩ : ∃ u, cs[0]? = some u := ⟨cs[0]'(by have := (List.getElem?_eq_some_iff.1 hj).1; omega), List.getElem?_eq_getElem _⟩
    exact ⟨u0, by simpa [Addr.add] using h 0 u0 h0⟩
  obtain ⟨u0, h0⟩ := h0
  obtain ⟨g, o, s⟩ := a
  have hs : s = none := World.cell?_spot h0
  subst hs
  refine ⟨g, o, rfl, ?_⟩
  have := h j u hj
  rwa [add_plain] at this

/-- A cell that reads at []byte. -/
theorem bytes_of_trod {fuel : Nat} {c : Value} {y : DataW H × List MemPlace} (h : DataW.trod enc Tryd.prog w 0 (fun _ => true) held fuel 23 [c] = some y) :
    ∃ (ao : Option Addr) (n cap : Nat) (b : List UInt8), c = .slice ao n cap ∧ Bytes w ao n b ∧ n ≤ cap := by
  rcases open_ints Tryd.underlying23 Tryd.underlying5 (by kernel_rfl) h with ⟨hcs, -⟩ | ⟨a, len, cap, zs, hcs, -, hl, hm, hz, -, hcell, hwf⟩
  · simp at hcs
    exact ⟨none, 0, 0, [], hcs, Bytes.nil _ _, Nat.le_refl _⟩
  · simp at hcs
    simp only [if_true] at hz
    refine ⟨some a, len, cap, (zs.take len).map (fun z => UInt8.ofNat z.toNat), hcs, ⟨by rw [List.length_map, List.length_take]; omega, rd_addr (fun j u hj => ?_)⟩, hl⟩
    rw [List.map_map, List.getElem?_map, List.getElem?_take] at hj
    split at hj
    · rename_i hjl
      have hjz : j < zs.length := by omega
      rw [List.getElem?_eq_getElem hjz] at hj
      simp only [Option.map_some, Option.some.injEq] at hj
      subst hj
      have h1 := hcell j hjz
      have h2 := hwf zs[j] (List.getElem_mem hjz)
      rw [h1, List.getD_eq_getElem?_getD, List.getElem?_eq_getElem hjz]
      simp [Lit.wf, IntKind.min, IntKind.max, IntKind.signed, IntKind.bits] at h2
      show some (Value.int IntKind.u8 zs[j]) = some (Value.int IntKind.u8 ((UInt8.ofNat zs[j].toNat).toNat : Int))
      rw [UInt8.toNat_ofNat']
      congr 2
      omega
    · cases hj

end

theorem slice_sized {H : Type} {ts : List TypeId} {ds : List (DataW H)} {d : DataW H} (h : (DataW.weightsEach Tryd.prog ts ds).all (· ≤ reachBytes) = true) {j : Nat} {t e : TypeId} (ht : ts[j]? = some t) (hd : ds[j]? = some d) (hu : Tryd.prog.underlying t = some (.slice e)) :
    Joins.sliceLen d * Tryd.prog.bytesOf e ≤ reachBytes := by
  cases d with
  | slice el sp =>
    have := sized_slice h ht hd hu
    exact Nat.le_trans (Nat.mul_le_mul_right _ (Nat.le_add_right _ _)) this
  | _ => simp [Joins.sliceLen]

/-- An argument that is two ints. -/
theorem two_arg {H : Type} {enc : TypeId × Value → H} {w : World} {base : Nat} {t : TypeId} {v : Value} {d : DataW H} {p : List MemPlace} (hs : Tryd.prog.underlying t = some (.array 2 3)) (hc : Tryd.prog.cellsOf t = 2)
    (hv : Value.okWide Tryd.prog w .any base t v) (h : DataW.Trod enc Tryd.prog w 0 (fun _ => true) true t v d p) : ∃ a b : Int, v = .agg #[.int .i64 a, .int .i64 b] := by
  simp only [Value.okWide, hs] at hv
  obtain ⟨cs, rfl, hz, -⟩ := hv
  obtain ⟨c0, c1, rfl⟩ := Joins.array2 (hz.trans hc)
  obtain ⟨f, hf⟩ := h
  obtain ⟨xs, n, -, -, -, hxl, hx⟩ := DataW.trod_array hs hf
  have ci : Tryd.prog.cellsOf 3 = 1 := by kernel_rfl
  have h0 := hx 0 (by omega)
  have h1 := hx 1 (by omega)
  rw [ci, List.getElem?_eq_getElem (by omega)] at h0 h1
  obtain ⟨a, rfl, -⟩ := int_of_trod (c := c0) (by simpa [Value.cells] using h0)
  obtain ⟨b, rfl, -⟩ := int_of_trod (c := c1) (by simpa [Value.cells] using h1)
  exact ⟨a, b, rfl⟩

/-! ### The tables -/
theorem laid_of {W : World} (h : laidMetH Tryd.prog [("sealchain/sha.round", Rows.laid_sealchain_sha_round), ("sealchain/sha.first", Rows.laid_sealchain_sha_first)] W) : Laid W := by
  have h' : laidMet Tryd.prog [("sealchain/sha.round", Rows.laid_sealchain_sha_round), ("sealchain/sha.first", Rows.laid_sealchain_sha_first)] W := h
  obtain ⟨ps, ⟨g, t, cs, fuel, p, q, hg, ht, hvar, hd, ⟨g2, t2, cs2, fuel2, p2, q2, hg2, ht2, hvar2, hd2, -, -⟩, -⟩, -, -⟩ := h'
  obtain rfl := Option.some.inj ((show Tryd.prog.globalNamed "sealchain/sha.round" = some 1 by kernel_rfl).symm.trans hg)
  obtain rfl := Option.some.inj ((show Tryd.prog.globalNamed "sealchain/sha.first" = some 0 by kernel_rfl).symm.trans hg2)
  obtain rfl := Option.some.inj ((show (Tryd.prog.globals[1]?).map (·.type) = some 171 by kernel_rfl).symm.trans ht)
  obtain rfl := Option.some.inj ((show (Tryd.prog.globals[0]?).map (·.type) = some 156 by kernel_rfl).symm.trans ht2)
  have c1 := table_of_trod (zs := kList) Tryd.underlying171 (by kernel_rfl) (by kernel_rfl) hd
  have c2 := table_of_trod (zs := [1779033703, 3144134277, 1013904242, 2773480762, 1359893119, 2600822924, 528734635, 1541459225]) Tryd.underlying156 (by kernel_rfl) (by kernel_rfl) hd2
  have v1 : ∃ t f, W.heap[1]? = some (.cells cs t f) := by
    unfold World.var? at hvar
    rw [hg] at hvar
    simp only [Option.bind_some] at hvar
    split at hvar
    · rename_i c t f he
      obtain rfl := Option.some.inj hvar
      exact ⟨t, f, he⟩
    · cases hvar
  have v2 : ∃ t f, W.heap[0]? = some (.cells cs2 t f) := by
    unfold World.var? at hvar2
    rw [hg2] at hvar2
    simp only [Option.bind_some] at hvar2
    split at hvar2
    · rename_i c t f he
      obtain rfl := Option.some.inj hvar2
      exact ⟨t, f, he⟩
    · cases hvar2
  have d1 : cs = roundC := by obtain ⟨l⟩ := cs; simp only at c1; rw [c1]; rfl
  have d2 : cs2 = firstS.arr := by obtain ⟨l⟩ := cs2; simp only at c2; rw [c2]; rfl
  subst d1 d2
  exact ⟨v1, v2⟩

def setTab (cs : Array Value) : Obj → Obj
  | .cells _ t f => .cells cs t f
  | o => o
/-- A world in which the tables lie as the program's text lays them. -/
noncomputable def laidWorld (os : Os) : World :=
  { World.holding Tryd.prog os ⟨#[], #[], []⟩ with heap := ((World.holding Tryd.prog os ⟨#[], #[], []⟩).heap.modify 1 (setTab roundC)).modify 0 (setTab firstS.arr) }
theorem laidWorld_met (os : Os) (args : Array Value) : laidMetH Tryd.prog [("sealchain/sha.round", Rows.laid_sealchain_sha_round), ("sealchain/sha.first", Rows.laid_sealchain_sha_first)] ((laidWorld os).forCall (fun _ _ => 0) ⟨#[], args, []⟩).memory := by
  show laidMet Tryd.prog [("sealchain/sha.round", Rows.laid_sealchain_sha_round), ("sealchain/sha.first", Rows.laid_sealchain_sha_first)] _
  exact laidMet_of_run' 8 (by kernel_rfl) (by kernel_rfl)
end Go.Proofs.YtfgfhfmhadondaaDoor
