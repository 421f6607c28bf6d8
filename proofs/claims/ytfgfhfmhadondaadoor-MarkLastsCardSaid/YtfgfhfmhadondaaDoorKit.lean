/- What every law of this seat owes besides its walk: the listed tables' cells; an input that fits; the arguments read as before. -/
import Derived.Test.YtfgfhfmhadondaaDoorSha
import Derived.Test.YtfgfhfmhadondaaDoorRows
import Derived.Test.YtfgfhfmhadondaaDoorTie
import Derived.Test.YtfgfhfmhadondaaDoorCards
import Derived.ChangeStays
import Derived.ReadAgain
import Derived.ChangeSame
import Derived.ChangeVars
import Derived.JoinedOf
import Derived.RowKitTokens
import Derived.LaidLaws
import Derived.SevenTiedAt
import Derived.Lib.SmallJoins
import Derived.Deep.Slices
import Derived.Deep.SlicePairs
import Derived.ChangeSlices
import Derived.SizedLaws
namespace Go.Proofs.YtfgfhfmhadondaaDoor
open Go.ChangeShapes Go.WideShapes Go.RowKit
set_option maxHeartbeats 400000
set_option maxRecDepth 100000

theorem own' : ownKnob Tryd.prog.godebug = none := by kernel_rfl
theorem laidOut' : laidOutB Tryd.prog = true := by kernel_rfl
theorem mapsRowed' : mapsRowed Tryd.prog = true := by kernel_rfl
theorem slicesFull : ∀ t e, t < Tryd.prog.types.size → Tryd.prog.underlying t = some (.slice e) → 0 < Tryd.prog.cellsOf e := slices_full_of _ (by kernel_rfl)
theorem kidsAll : Kids Tryd.prog (· < Tryd.prog.types.size) := kids_rows laidOut' mapsRowed'

theorem ext_keptBut {W W' : World} (e : Ext nob W W') (may : MemPlace → Prop) : W.keptBut W' may := by
  refine ⟨e.os, e.output, fun i hi => ?_⟩
  rw [e.block i hi (fun h => h)]
  cases h : W.heap[i]? with
  | none => rfl
  | some o => cases o with
    | cells c t f => exact ⟨rfl, rfl, rfl, fun _ _ => rfl⟩
    | map es cl => exact Or.inr ⟨rfl, rfl⟩
    | _ => rfl
theorem ext_sameAt {W W' : World} (e : Ext nob W W') {p : MemPlace} (hb : p.block < W.heap.size) : W.sameAt W' p := by
  cases p with
  | cell b o => exact (ext_keptBut e (fun _ => False)).cell hb (fun h => h)
  | map b => exact e.block b hb (fun h => h)

theorem trod_stays' {H : Type} {enc : TypeId × Value → H} {W W' : World} (e : Ext nob W W') {t : TypeId} {v : Value} {d : DataW H} {ps : List MemPlace} (hT : t < Tryd.prog.types.size)
    (h : DataW.Trod enc Tryd.prog W 0 (fun _ => true) true t v d ps) (hl : ∀ p ∈ ps, p.block < W.heap.size) : DataW.Trod enc Tryd.prog W' 0 (fun b => decide (b < W.heap.size)) true t v d ps := by
  obtain ⟨n, hn⟩ := h
  exact ⟨n, DataW.trod_stays kidsAll (fun ht hu => slicesFull _ _ ht hu) (fun h => by cases h) hT hn (fun p hp => ext_sameAt e (hl p hp)) (fun p hp => by simpa using hl p hp)⟩
theorem trodAll_stays' {H : Type} {enc : TypeId × Value → H} {W W' : World} (e : Ext nob W W') : ∀ {ts : List TypeId} {vs : List Value} {ds : List (DataW H)} {ps : List MemPlace}, (∀ t ∈ ts, t < Tryd.prog.types.size) →
    DataW.TrodAll enc Tryd.prog W 0 (fun _ => true) true ts vs ds ps → (∀ p ∈ ps, p.block < W.heap.size) → DataW.TrodAll enc Tryd.prog W' 0 (fun b => decide (b < W.heap.size)) true ts vs ds ps
  | [], [], [], _, _, h, _ => h
  | _ :: _, _ :: _, _ :: _, _, hT, ⟨p, q, h1, h2, e1⟩, hs =>
    ⟨p, q, trod_stays' e (hT _ (List.mem_cons.2 (Or.inl rfl))) h1 (fun x hx => hs x (by rw [e1]; exact List.mem_append_left _ hx)),
      trodAll_stays' e (fun t ht => hT t (List.mem_cons.2 (Or.inr ht))) h2 (fun x hx => hs x (by rw [e1]; exact List.mem_append_right _ hx)), e1⟩

/-- The law's post: true, the arguments read as before. -/
theorem law_post {H : Type} {enc : TypeId × Value → H} {fn : Func} {s : ChangeSpec} {apart fresh handsOn : Bool} {W W' : World} {args : Array Value} {ds gs : List (DataW H)} {before : List MemPlace}
    (hpar : ∀ t ∈ fn.params.toList, t < Tryd.prog.types.size) (hres : fn.resultTypes = #[4]) (hvars : s.vars = []) (hW : DataW.Whole enc Tryd.prog fn.params.toList s.vars apart W args.toList ds gs before)
    (hfn : s.fn H (ds ++ gs) = { results := [.lit (.bool true)], args := ds }) (he : Ext nob W W') : s.post enc Tryd.prog fn apart fresh handsOn false W args (.bool true) W' := by
  have hlt := hW.lt
  have hW' := hW
  obtain ⟨p, q, hA, hV, rfl, hfz, hnd⟩ := hW
  refine ⟨ds, gs, _, [], p, [], hW', ?_, ?_, ?_, ext_keptBut he _, fun h => by cases h⟩
  · rw [hfn, hres]
    exact trodAll_mk1 (shut_bool Tryd.underlying4 true)
  · rw [hfn]
    exact trodAll_stays' he hpar hA (fun x hx => hlt x (List.mem_append_left _ hx))
  · rw [hfn, hvars]
    rfl

/-! ### The listed tables -/
theorem u32_of_trod {H : Type} {enc : TypeId × Value → H} {w : World} {base : Nat} {sp : Nat → Bool} {held : Bool} {fuel : Nat} {c : Value} {y : DataW H × List MemPlace}
    (h : DataW.trod enc Tryd.prog w base sp held fuel 155 [c] = some y) : ∃ n, c = .int .u32 n ∧ y = (.lit (.int .u32 n), []) := by
  have ht := Tryd.underlying155
  cases fuel with
  | zero => simp [DataW.trod] at h
  | succ fuel =>
    cases c <;> simp [DataW.trod, ht] at h
    rename_i k' n
    obtain ⟨⟨rfl, _⟩, rfl⟩ := h
    exact ⟨n, rfl, rfl⟩

/-- An array of words whose reading is known: its cells. -/
theorem table_of_trod {w : World} {t : TypeId} {m fuel : Nat} {cs : List Value} {zs : List Int} {p : List MemPlace} (ht : Tryd.prog.underlying t = some (.array m 155)) (hc : Tryd.prog.cellsOf 155 = 1) (hm : Tryd.prog.cellsOf t = m)
    (h : DataW.trod (fun _ => ()) Tryd.prog w 0 (fun _ => true) false fuel t cs = some (.agg (zs.map fun z => .lit (.int .u32 z)), p)) : cs = zs.map (Value.int .u32) := by
  obtain ⟨xs, n, -, hx, hl, hxl, hf⟩ := DataW.trod_array ht h
  rw [hm] at hl
  simp only [Prod.mk.injEq, DataW.agg.injEq] at hx
  obtain ⟨hx, -⟩ := hx
  have hzl : zs.length = m := by have := congrArg List.length hx; simp at this; omega
  apply List.ext_getElem?
  intro i
  by_cases hi : i < m
  · have h1 := hf i hi
    rw [hc, Nat.mul_one] at h1
    obtain ⟨c, hci⟩ : ∃ c, cs[i]? = some c := ⟨cs[i]'(by omega), List.getElem?_eq_getElem _⟩
    have hd : (cs.drop i).take 1 = [c] := by
      obtain ⟨hlt, rfl⟩ := List.getElem?_eq_some_iff.1 hci
      rw [List.drop_eq_getElem_cons hlt]; rfl
    obtain ⟨y, hy⟩ : ∃ y, xs[i]? = some y := ⟨xs[i]'(by omega), List.getElem?_eq_getElem _⟩
    rw [hd, hy] at h1
    obtain ⟨z, rfl, rfl⟩ := u32_of_trod h1
    have h2 := congrArg (fun l => l[i]?) hx
    simp only [List.getElem?_map, hy, Option.map_some] at h2
    rw [hci, List.getElem?_map]
    cases hz : zs[i]? with
    | none => rw [hz] at h2; simp at h2
    | some z' => rw [hz] at h2; simp at h2; simp [h2]
  · rw [List.getElem?_eq_none (by omega), List.getElem?_eq_none (by rw [List.length_map]; omega)]
end Go.Proofs.YtfgfhfmhadondaaDoor
