/- What every law of this seat owes besides its walk, II: the arguments opened; the tables; a world that fits. -/
import Derived.Test.YtfgfhfmhadondaaDoorKit
import Derived.Test.YtfgfhfmhadondaaDoorMade24
namespace Go.Proofs.YtfgfhfmhadondaaDoor
open Go.ChangeShapes Go.WideShapes Go.RowKit Go.Deep
set_option maxHeartbeats 400000
set_option maxRecDepth 100000

section
variable {H : Type} {enc : TypeId × Value → H} {w : World} {held : Bool}

theorem int_of_trod {base fuel : Nat} {sp : Nat → Bool} {c : Value} {y : DataW H × List MemPlace} (h : DataW.trod enc Tryd.prog w base sp held fuel 3 [c] = some y) : ∃ n, c = .int .i64 n ∧ (Lit.int .i64 n).wf = true := by
  have ht := Tryd.underlying3
  cases fuel with
  | zero => simp [DataW.trod] at h
  | succ fuel =>
    cases c <;> simp [DataW.trod, ht] at h
    rename_i k' n
    obtain ⟨⟨rfl, h2⟩, rfl⟩ := h
    exact ⟨n, rfl, h2⟩

theorem rd_addr {a : Addr} {cs : List Value} (h : ∀ j u, cs[j]? = some u → w.cell? (a.add j) = some u) : Rd w (some a) cs := by
  intro j u hj
  have h0 : ∃ u, w.cell? a = some u := by
    obtain ⟨u0, h0⟩ : ∃ u, cs[0]? = some u := ⟨cs[0]'(by have := (List.getElem?_eq_some_iff.1 hj).1; omega), List.getElem?_eq_getElem _⟩
    exact ⟨u0, by simpa [Addr.add] using h 0 u0 h0⟩
  obtain ⟨u0, h0⟩ := h0
  obtain ⟨g, o, s⟩ := a
  have hs : s = none := World.cell?_spot h0
  subst hs
  refine ⟨g, o, rfl, ?_⟩
  have := h j u hj
  rwa [add_plain] at this

/-- A cell that reads at []byte. -/
theorem bytes_of_trod {fuel : Nat} {c : Value} {y : DataW H × List MemPlace} (h : DataW.trod enc Tryd.prog w 0 (fun _ => true) held fuel 23 [c] = some y) :
    ∃ (ao : Option Addr) (n cap : Nat) (b : List UInt8), c = .slice ao n cap ∧ Bytes w ao n b ∧ n ≤ cap := by
  rcases open_ints Tryd.underlying23 Tryd.underlying5 (by kernel_rfl) h with ⟨hcs, -⟩ | ⟨a, len, cap, zs, hcs, -, hl, hm, hz, -, hcell, hwf⟩
  · simp at hcs
    exact ⟨none, 0, 0, [], hcs, Bytes.nil _ _, Nat.le_refl _⟩
  · simp at hcs
    simp only [if_true] at hz
    refine ⟨some a, len, cap, (zs.take len).map (fun z => UInt8.ofNat z.toNat), hcs, ⟨by rw [List.length_map, List.length_take]; omega, rd_addr (fun j u hj => ?_)⟩, hl⟩
    rw [List.map_map, List.getElem?_map, List.getElem?_take] at hj
    split at hj
    · rename_i hjl
      have hjz : j < zs.length := by omega
      rw [List.getElem?_eq_getElem hjz] at hj
      simp only [Option.map_some, Option.some.injEq] at hj
      subst hj
      have h1 := hcell j hjz
      have h2 := hwf zs[j] (List.getElem_mem hjz)
      rw [h1, List.getD_eq_getElem?_getD, List.getElem?_eq_getElem hjz]
      simp [Lit.wf, IntKind.min, IntKind.max, IntKind.signed, IntKind.bits] at h2
      show some (Value.int IntKind.u8 zs[j]) = some (Value.int IntKind.u8 ((UInt8.ofNat zs[j].toNat).toNat : Int))
      rw [UInt8.toNat_ofNat']
      congr 2
      omega
    · cases hj

/-- Four cells that read at a struct of three ints and bytes. -/
theorem row_of_trod {t : TypeId} {f0 f1 f2 f3 : Field} {fuel : Nat} {cs : List Value} {x : DataW H × List MemPlace} (hs : Tryd.prog.underlying t = some (.struct #[f0, f1, f2, f3])) (hc : Tryd.prog.cellsOf t = 4)
    (e0 : f0.type = 3 ∧ f0.offset = 0) (e1 : f1.type = 3 ∧ f1.offset = 1) (e2 : f2.type = 3 ∧ f2.offset = 2) (e3 : f3.type = 23 ∧ f3.offset = 3)
    (h : DataW.trod enc Tryd.prog w 0 (fun _ => true) held fuel t cs = some x) : ∃ r : RowV, cs = r.cells ∧ Bytes w r.ao r.n r.row.b ∧ r.n ≤ r.cap := by
  obtain ⟨y0, y1, y2, y3, n, -, hl, h0, h1, h2, h3⟩ := Go.Joins.trod_struct4 hs h
  rw [hc] at hl
  obtain ⟨c0, c1, c2, c3, rfl⟩ : ∃ c0 c1 c2 c3, cs = [c0, c1, c2, c3] := by
    match cs, hl with
    | [a, b, c, d], _ => exact ⟨a, b, c, d, rfl⟩
  have ci : Tryd.prog.cellsOf 3 = 1 := by kernel_rfl
  have cb : Tryd.prog.cellsOf 23 = 1 := by kernel_rfl
  rw [e0.1, e0.2, ci] at h0
  rw [e1.1, e1.2, ci] at h1
  rw [e2.1, e2.2, ci] at h2
  rw [e3.1, e3.2, cb] at h3
  obtain ⟨x0, rfl, -⟩ := int_of_trod (c := c0) h0
  obtain ⟨x1, rfl, -⟩ := int_of_trod (c := c1) h1
  obtain ⟨x2, rfl, -⟩ := int_of_trod (c := c2) h2
  obtain ⟨ao, m, cap, b, rfl, hb, hm⟩ := bytes_of_trod (c := c3) h3
  exact ⟨⟨⟨x0, x1, x2, b⟩, ao, m, cap⟩, rfl, hb, hm⟩

/-- A slice of such structs. -/
theorem rows_of_trod {t e : TypeId} {f0 f1 f2 f3 : Field} {fuel : Nat} {cs : List Value} {x : DataW H × List MemPlace} (ht : Tryd.prog.underlying t = some (.slice e)) (hs : Tryd.prog.underlying e = some (.struct #[f0, f1, f2, f3])) (hc : Tryd.prog.cellsOf e = 4)
    (e0 : f0.type = 3 ∧ f0.offset = 0) (e1 : f1.type = 3 ∧ f1.offset = 1) (e2 : f2.type = 3 ∧ f2.offset = 2) (e3 : f3.type = 23 ∧ f3.offset = 3)
    (h : DataW.trod enc Tryd.prog w 0 (fun _ => true) held fuel t cs = some x) : ∃ (ao : Option Addr) (n cap : Nat) (xs : List RowV), cs = [.slice ao n cap] ∧ SeedsAt w ao n xs ∧ n ≤ cap ∧ cap ≤ maxLen := by
  rcases open_slice ht h with ⟨hcs, -⟩ | ⟨a, len, cap, m, n, D, Pl, hcs, -, hl, hm, hmm, -, hx⟩
  · exact ⟨none, 0, 0, [], hcs, ⟨rfl, Rd.nil _ _, fun r hr => by cases hr⟩, Nat.le_refl _, Nat.zero_le _⟩
  · simp only [if_true] at hmm
    subst hmm
    have each : ∀ i, i < len → ∃ r : RowV, (∀ j, j < 4 → w.cell? (a.add (i * 4 + j)) = r.cells[j]?) ∧ Bytes w r.ao r.n r.row.b ∧ r.n ≤ r.cap := by
      intro i hi
      obtain ⟨cs', h1, h2⟩ := hx i (by omega)
      obtain ⟨r, rfl, hb, hn⟩ := row_of_trod hs hc e0 e1 e2 e3 h2
      rw [hc] at h1
      obtain ⟨-, -, hcell⟩ := World.cells?_some h1
      exact ⟨r, fun j hj => by rw [← add_add]; exact hcell j hj, hb, hn⟩
    haveI : Inhabited RowV := ⟨⟨⟨0, 0, 0, []⟩, none, 0, 0⟩⟩
    obtain ⟨f, hf⟩ := choose_lt each
    refine ⟨some a, len, m, (List.range len).map f, hcs, ⟨by simp, rd_addr (fun j u hj => ?_), fun r hr => ?_⟩, hl, hm⟩
    · have hjl := (List.getElem?_eq_some_iff.1 hj).1
      rw [cells_len, List.length_map, List.length_range] at hjl
      have hq : j / 4 < len := by omega
      have h1 := cells_at ((List.range len).map f) (j / 4) (f (j / 4)) (by simp [List.getElem?_map, List.getElem?_range hq]) (j % 4) (by omega)
      rw [show j / 4 * 4 + j % 4 = j by omega, hj] at h1
      have h2 := (hf (j / 4) hq).1 (j % 4) (by omega)
      rw [show j / 4 * 4 + j % 4 = j by omega] at h2
      rw [h2, ← h1]
    · obtain ⟨i, hi, rfl⟩ := List.mem_map.1 hr
      exact (hf i (List.mem_range.1 hi)).2
end

theorem slice_sized {H : Type} {ts : List TypeId} {ds : List (DataW H)} {d : DataW H} (h : (DataW.weightsEach Tryd.prog ts ds).all (· ≤ reachBytes) = true) {j : Nat} {t e : TypeId} (ht : ts[j]? = some t) (hd : ds[j]? = some d) (hu : Tryd.prog.underlying t = some (.slice e)) :
    Joins.sliceLen d * Tryd.prog.bytesOf e ≤ reachBytes := by
  cases d with
  | slice el sp =>
    have := sized_slice h ht hd hu
    exact Nat.le_trans (Nat.mul_le_mul_right _ (Nat.le_add_right _ _)) this
  | _ => simp [Joins.sliceLen]

/-- An argument that is a slice of such structs. -/
theorem rows_arg {H : Type} {enc : TypeId × Value → H} {w : World} {base : Nat} {t e : TypeId} {f0 f1 f2 f3 : Field} {v : Value} {d : DataW H} {p : List MemPlace} (ht : Tryd.prog.underlying t = some (.slice e)) (hs : Tryd.prog.underlying e = some (.struct #[f0, f1, f2, f3])) (hc : Tryd.prog.cellsOf e = 4)
    (e0 : f0.type = 3 ∧ f0.offset = 0) (e1 : f1.type = 3 ∧ f1.offset = 1) (e2 : f2.type = 3 ∧ f2.offset = 2) (e3 : f3.type = 23 ∧ f3.offset = 3)
    (hv : Value.okWide Tryd.prog w .any base t v) (h : DataW.Trod enc Tryd.prog w 0 (fun _ => true) true t v d p) :
    ∃ (ao : Option Addr) (n cap : Nat) (xs : List RowV), v = .slice ao n cap ∧ SeedsAt w ao n xs ∧ n ≤ cap ∧ Joins.sliceLen d = n := by
  obtain ⟨a0, l0, c0, rfl⟩ := okWide_slice ht hv
  have hl := Joins.sliceLen_Trod ht h
  obtain ⟨f, hf⟩ := h
  obtain ⟨ao, n, cap, xs, hcs, hx, hnc, -⟩ := rows_of_trod ht hs hc e0 e1 e2 e3 hf
  simp only [Value.cells, List.cons.injEq, Value.slice.injEq, and_true] at hcs
  obtain ⟨rfl, rfl, rfl⟩ := hcs
  exact ⟨a0, l0, c0, xs, rfl, hx, hnc, hl⟩
/-- An argument that is such a struct. -/
theorem row_arg {H : Type} {enc : TypeId × Value → H} {w : World} {base : Nat} {t : TypeId} {f0 f1 f2 f3 : Field} {v : Value} {d : DataW H} {p : List MemPlace} (hs : Tryd.prog.underlying t = some (.struct #[f0, f1, f2, f3])) (hc : Tryd.prog.cellsOf t = 4)
    (e0 : f0.type = 3 ∧ f0.offset = 0) (e1 : f1.type = 3 ∧ f1.offset = 1) (e2 : f2.type = 3 ∧ f2.offset = 2) (e3 : f3.type = 23 ∧ f3.offset = 3)
    (hv : Value.okWide Tryd.prog w .any base t v) (h : DataW.Trod enc Tryd.prog w 0 (fun _ => true) true t v d p) :
    ∃ r : RowV, v = rowV r.row.step r.row.node r.row.kind r.ao r.n r.cap ∧ Bytes w r.ao r.n r.row.b ∧ r.n ≤ r.cap := by
  obtain ⟨cs, rfl, hz⟩ := okWide_struct hs hv
  obtain ⟨f, hf⟩ := h
  obtain ⟨r, hr, hb, hn⟩ := row_of_trod hs hc e0 e1 e2 e3 hf
  refine ⟨r, ?_, hb, hn⟩
  obtain ⟨l⟩ := cs
  have hl : l = r.cells := hr
  subst hl
  rfl
/-- An argument that is two ints. -/
theorem two_arg {H : Type} {enc : TypeId × Value → H} {w : World} {base : Nat} {t : TypeId} {v : Value} {d : DataW H} {p : List MemPlace} (hs : Tryd.prog.underlying t = some (.array 2 3)) (hc : Tryd.prog.cellsOf t = 2)
    (hv : Value.okWide Tryd.prog w .any base t v) (h : DataW.Trod enc Tryd.prog w 0 (fun _ => true) true t v d p) : ∃ a b : Int, v = .agg #[.int .i64 a, .int .i64 b] := by
  simp only [Value.okWide, hs] at hv
  obtain ⟨cs, rfl, hz, -⟩ := hv
  obtain ⟨c0, c1, rfl⟩ := Joins.array2 (hz.trans hc)
  obtain ⟨f, hf⟩ := h
  obtain ⟨xs, n, -, -, -, hxl, hx⟩ := DataW.trod_array hs hf
  have ci : Tryd.prog.cellsOf 3 = 1 := by kernel_rfl
  have h0 := hx 0 (by omega)
  have h1 := hx 1 (by omega)
  rw [ci, List.getElem?_eq_getElem (by omega)] at h0 h1
  obtain ⟨a, rfl, -⟩ := int_of_trod (c := c0) (by simpa [Value.cells] using h0)
  obtain ⟨b, rfl, -⟩ := int_of_trod (c := c1) (by simpa [Value.cells] using h1)
  exact ⟨a, b, rfl⟩

/-! ### The tables -/
theorem laid_of {W : World} (h : laidMetH Tryd.prog [("sealchain/sha.round", Rows.laid_sealchain_sha_round), ("sealchain/sha.first", Rows.laid_sealchain_sha_first)] W) : Laid W := by
  have h' : laidMet Tryd.prog [("sealchain/sha.round", Rows.laid_sealchain_sha_round), ("sealchain/sha.first", Rows.laid_sealchain_sha_first)] W := h
  obtain ⟨ps, ⟨g, t, cs, fuel, p, q, hg, ht, hvar, hd, ⟨g2, t2, cs2, fuel2, p2, q2, hg2, ht2, hvar2, hd2, -, -⟩, -⟩, -, -⟩ := h'
  obtain rfl := Option.some.inj ((show Tryd.prog.globalNamed "sealchain/sha.round" = some 1 by kernel_rfl).symm.trans hg)
  obtain rfl := Option.some.inj ((show Tryd.prog.globalNamed "sealchain/sha.first" = some 0 by kernel_rfl).symm.trans hg2)
  obtain rfl := Option.some.inj ((show (Tryd.prog.globals[1]?).map (·.type) = some 171 by kernel_rfl).symm.trans ht)
  obtain rfl := Option.some.inj ((show (Tryd.prog.globals[0]?).map (·.type) = some 156 by kernel_rfl).symm.trans ht2)
  have c1 := table_of_trod (zs := kList) Tryd.underlying171 (by kernel_rfl) (by kernel_rfl) hd
  have c2 := table_of_trod (zs := [1779033703, 3144134277, 1013904242, 2773480762, 1359893119, 2600822924, 528734635, 1541459225]) Tryd.underlying156 (by kernel_rfl) (by kernel_rfl) hd2
  have v1 : ∃ t f, W.heap[1]? = some (.cells cs t f) := by
    unfold World.var? at hvar
    rw [hg] at hvar
    simp only [Option.bind_some] at hvar
    split at hvar
    · rename_i c t f he
      obtain rfl := Option.some.inj hvar
      exact ⟨t, f, he⟩
    · cases hvar
  have v2 : ∃ t f, W.heap[0]? = some (.cells cs2 t f) := by
    unfold World.var? at hvar2
    rw [hg2] at hvar2
    simp only [Option.bind_some] at hvar2
    split at hvar2
    · rename_i c t f he
      obtain rfl := Option.some.inj hvar2
      exact ⟨t, f, he⟩
    · cases hvar2
  have d1 : cs = roundC := by obtain ⟨l⟩ := cs; simp only at c1; rw [c1]; rfl
  have d2 : cs2 = firstS.arr := by obtain ⟨l⟩ := cs2; simp only at c2; rw [c2]; rfl
  subst d1 d2
  exact ⟨v1, v2⟩

def setTab (cs : Array Value) : Obj → Obj
  | .cells _ t f => .cells cs t f
  | o => o
/-- A world in which the tables lie as the program's text lays them. -/
noncomputable def laidWorld (os : Os) : World :=
  { World.holding Tryd.prog os ⟨#[], #[], []⟩ with heap := ((World.holding Tryd.prog os ⟨#[], #[], []⟩).heap.modify 1 (setTab roundC)).modify 0 (setTab firstS.arr) }
theorem laidWorld_met (os : Os) (args : Array Value) : laidMetH Tryd.prog [("sealchain/sha.round", Rows.laid_sealchain_sha_round), ("sealchain/sha.first", Rows.laid_sealchain_sha_first)] ((laidWorld os).forCall (fun _ _ => 0) ⟨#[], args, []⟩).memory := by
  show laidMet Tryd.prog [("sealchain/sha.round", Rows.laid_sealchain_sha_round), ("sealchain/sha.first", Rows.laid_sealchain_sha_first)] _
  exact laidMet_of_run' 8 (by kernel_rfl) (by kernel_rfl)
end Go.Proofs.YtfgfhfmhadondaaDoor
